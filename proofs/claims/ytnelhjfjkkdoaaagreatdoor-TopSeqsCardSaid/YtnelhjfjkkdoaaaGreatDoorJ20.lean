import Derived.Test.YtnelhjfjkkdoaaaGreatDoorJ18
import Derived.Test.YtnelhjfjkkdoaaaGreatDoorJ19
set_option linter.unusedSimpArgs false
set_option linter.unusedVariables false
set_option maxHeartbeats 4000000
set_option maxRecDepth 100000
namespace Go.Proofs.YtnelhjfjkkdoaaaGreatDoor
section
open Go.RowKit Go.Instr
attribute [local go_sem] ba_get ByteArray.mk_append_mk
def StepEnd (w:World) (r:List UInt8 × List UInt8) (e:Ending) (w':World):Prop:=e= .returned (.tuple #[r.1,r.2])∧Below w.heap.size w w'
theorem stepW_eq (k:Nat) (p v:List UInt8) (K:List (List UInt8)) (left:List UInt8):stepW (k,p,v,K) left=if Nib.common p left≠p.length then ([],[])
 else if k=2 then (K.getD 0 [],left.drop p.length)
 else if k=1∧p.length<left.length then ([],[])
 else if k=1∨left= [] then ([],v)
 else if K.getD (left.headD 0).toNat []= [] then ([],[])
 else (K.getD (left.headD 0).toNat [],left.tail):=rfl
theorem z_19 {P:Prop} (h:P:=by
 rw [B2.out.cell,List.getElem?_toArray,show 3+i=i+1+1+1 by omega];unfold nodeV;rw [List.getElem?_cons_succ,List.getElem?_cons_succ,List.getElem?_cons_succ,strv_at (by rw [HK.out]; exact hi),List.getD_eq_getElem?_getD,List.getElem?_eq_getElem (by rw [HK.out]; exact hi)];rfl):P:=h
theorem z_20 {P:Prop} (h:P:=by
 have c2:w1.cell? ⟨nb,2,none⟩=some (v:Value):=B2.out.cell 2;have c3:∀ i,i<16→w1.cell? ⟨nb,3+i,none⟩=some (.string ⟨(K.getD i []).toArray⟩):=fun i hi=>by
  exact z_19
 have HC3:=ι c3;clear c3 c1 hb0 B1;go_wp2_with fail
 go_quiet (fail)
 go_wp2_with fail
 exact HP.out _ _ _ HX.out (below_drewN BB.out _)):P:=h
theorem proof_step (w:World) (k:Nat) (p v:List UInt8) (K:List (List UInt8)) (hK:K.length=16) (left:List UInt8) (hp:p.length≤100000) (hl:left.length≤100000) (hf:Nib.fit left=true):
  Calls Tryz.prog 113 #[.agg (nodeV k p v K).toArray,left] w (StepEnd w (stepW (k,p,v,K) left)):=by
 have HP:Hid (∀ a b w',stepW (k,p,v,K) left=(a,b)→Below w.heap.size w w'→StepEnd w (stepW (k,p,v,K) left) (.returned (.tuple #[a,b])) w'):=ι (fun a b w' e h=>by rw [e]; exact ⟨rfl,h⟩);generalize StepEnd w (stepW (k,p,v,K) left)=P at HP ⊢;have HX:=ι (stepW_eq k p v K left);generalize stepW (k,p,v,K) left=X at *;have HCm:Hid (∀ W,Calls Tryz.prog 97 #[p,left] W fun e w'=>e= .returned (.int .i64 (Nib.common p left:Int))∧Below W.heap.size W w'):=ι (fun W=>nib_Common p left W (by omega) (by omega));have HK:=ι hK;have hle:=Nib.common_le p left;clear hK;by_cases hc:Nib.common p left=p.length
 ·rw [if_neg (by simpa using hc)] at HX;have hpl:p.length≤left.length:=by omega
  rw [hc] at HCm;have hcI:((p.length:Int)==(p.length:Int))=true:=by simp
  by_cases h2:k=2
  ·subst h2;rw [if_pos rfl] at HX;have hd:=run_drop left p.length hpl;generalize left.drop p.length=lr at *;clear hle hc hpl hf hp hl;go_enter Tryz.func113,Tryz.ntmps113
   go_upto_region 1 with fail
   obtain ⟨nb,hnb⟩:∃ nb,w.heap.size=nb:=⟨_,rfl⟩
   have hb0:Hid (Blk (w.alloc (.cells (nodeV 2 p v K).toArray 133)) nb 133 (nodeV 2 p v K).toArray∧Below w.heap.size w (w.alloc (.cells (nodeV 2 p v K).toArray 133))):=ι (by subst hnb; exact ⟨Blk.new _ _ _,by go_grown⟩);rw [hnb];generalize w.alloc (.cells (nodeV 2 p v K).toArray 133)=W0 at hb0 ⊢;clear hnb;have c1:W0.cell? ⟨nb,1,none⟩=some (p:Value):=hb0.out.1.cell 1;go_region_held3 (fun w'=>w'.cell? ⟨nb,1,none⟩=some (p:Value)) (first|go_keep|assumption) ((go_at_call 97; refine (HCm.out _).mono ?_; rintro e w1 ⟨rfl,hb⟩; have B1:Below W0.heap.size W0 w1:=(by first|exact hb|exact hb.start); have d1:w1.cell? ⟨nb,1,none⟩=some (p:Value):=(B1.cell (p:=⟨nb,1,none⟩) hb0.out.1.lt).trans c1; clear hb))
   have B2:=ι (hb0.out.1.below B1 hb0.out.1.lt);have BB:Hid (Below w.heap.size w w1):=ι (hb0.out.2.nxt B1);have c0:w1.cell? ⟨nb,0,none⟩=some (.int .i64 (2:Int)):=B2.out.cell 0;have c2:w1.cell? ⟨nb,2,none⟩=some (v:Value):=B2.out.cell 2;have c3:∀ i,i<16→w1.cell? ⟨nb,3+i,none⟩=some (.string ⟨(K.getD i []).toArray⟩):=fun i hi=>by
    exact z_19
   have HC3:=ι c3;clear c3 c1 hb0 B1;have c3:=HC3.out 0 (by omega);go_wp2_with fail
   go_quiet (fail)
   go_wp2_with fail
   exact HP.out _ _ _ HX.out (below_drewN BB.out _)
  ·rw [if_neg h2] at HX;have h2I:((k:Int)==2)=false:=by simp; omega
   by_cases h1:k=1
   ·subst h1;by_cases hlt:p.length<left.length
    ·rw [if_pos ⟨rfl,hlt⟩] at HX;have hI:(p.length:Int)<left.length:=by omega
     clear hle hc hpl hf hlt h2 h2I;go_enter Tryz.func113,Tryz.ntmps113
     go_upto_region 1 with fail
     obtain ⟨nb,hnb⟩:∃ nb,w.heap.size=nb:=⟨_,rfl⟩
     have hb0:Hid (Blk (w.alloc (.cells (nodeV 1 p v K).toArray 133)) nb 133 (nodeV 1 p v K).toArray∧Below w.heap.size w (w.alloc (.cells (nodeV 1 p v K).toArray 133))):=ι (by subst hnb; exact ⟨Blk.new _ _ _,by go_grown⟩);rw [hnb];generalize w.alloc (.cells (nodeV 1 p v K).toArray 133)=W0 at hb0 ⊢;clear hnb;have c1:W0.cell? ⟨nb,1,none⟩=some (p:Value):=hb0.out.1.cell 1;go_region_held3 (fun w'=>w'.cell? ⟨nb,1,none⟩=some (p:Value)) (first|go_keep|assumption) ((go_at_call 97; refine (HCm.out _).mono ?_; rintro e w1 ⟨rfl,hb⟩; have B1:Below W0.heap.size W0 w1:=(by first|exact hb|exact hb.start); have d1:w1.cell? ⟨nb,1,none⟩=some (p:Value):=(B1.cell (p:=⟨nb,1,none⟩) hb0.out.1.lt).trans c1; clear hb))
     have B2:=ι (hb0.out.1.below B1 hb0.out.1.lt);have BB:Hid (Below w.heap.size w w1):=ι (hb0.out.2.nxt B1);have c0:w1.cell? ⟨nb,0,none⟩=some (.int .i64 (1:Int)):=B2.out.cell 0;have c2:w1.cell? ⟨nb,2,none⟩=some (v:Value):=B2.out.cell 2;have c3:∀ i,i<16→w1.cell? ⟨nb,3+i,none⟩=some (.string ⟨(K.getD i []).toArray⟩):=fun i hi=>by
      exact z_19
     have HC3:=ι c3;clear c3 c1 hb0 B1;go_wp2_with fail
     exact HP.out _ _ _ HX.out BB.out
    ·rw [if_neg (fun h=>hlt h.2),if_pos (.inl rfl)] at HX;have hI:((p.length:Int)<left.length)=False:=by simp; omega
     clear hle hc hpl hf hlt h2 h2I;go_enter Tryz.func113,Tryz.ntmps113
     go_upto_region 1 with fail
     obtain ⟨nb,hnb⟩:∃ nb,w.heap.size=nb:=⟨_,rfl⟩
     have hb0:Hid (Blk (w.alloc (.cells (nodeV 1 p v K).toArray 133)) nb 133 (nodeV 1 p v K).toArray∧Below w.heap.size w (w.alloc (.cells (nodeV 1 p v K).toArray 133))):=ι (by subst hnb; exact ⟨Blk.new _ _ _,by go_grown⟩);rw [hnb];generalize w.alloc (.cells (nodeV 1 p v K).toArray 133)=W0 at hb0 ⊢;clear hnb;have c1:W0.cell? ⟨nb,1,none⟩=some (p:Value):=hb0.out.1.cell 1;go_region_held3 (fun w'=>w'.cell? ⟨nb,1,none⟩=some (p:Value)) (first|go_keep|assumption) ((go_at_call 97; refine (HCm.out _).mono ?_; rintro e w1 ⟨rfl,hb⟩; have B1:Below W0.heap.size W0 w1:=(by first|exact hb|exact hb.start); have d1:w1.cell? ⟨nb,1,none⟩=some (p:Value):=(B1.cell (p:=⟨nb,1,none⟩) hb0.out.1.lt).trans c1; clear hb))
     have B2:=ι (hb0.out.1.below B1 hb0.out.1.lt);have BB:Hid (Below w.heap.size w w1):=ι (hb0.out.2.nxt B1);have c0:w1.cell? ⟨nb,0,none⟩=some (.int .i64 (1:Int)):=B2.out.cell 0;exact z_20
   ·rw [if_neg (fun h=>h1 h.1)] at HX;have h1I:((k:Int)==1)=false:=by simp; omega
    cases left with
    |nil=>
     rw [if_pos (.inr rfl)] at HX;clear hle hc hpl hf h1 h2;go_enter Tryz.func113,Tryz.ntmps113
     go_upto_region 1 with fail
     obtain ⟨nb,hnb⟩:∃ nb,w.heap.size=nb:=⟨_,rfl⟩
     have hb0:Hid (Blk (w.alloc (.cells (nodeV k p v K).toArray 133)) nb 133 (nodeV k p v K).toArray∧Below w.heap.size w (w.alloc (.cells (nodeV k p v K).toArray 133))):=ι (by subst hnb; exact ⟨Blk.new _ _ _,by go_grown⟩);rw [hnb];generalize w.alloc (.cells (nodeV k p v K).toArray 133)=W0 at hb0 ⊢;clear hnb;have c1:W0.cell? ⟨nb,1,none⟩=some (p:Value):=hb0.out.1.cell 1;go_region_held3 (fun w'=>w'.cell? ⟨nb,1,none⟩=some (p:Value)) (first|go_keep|assumption) ((go_at_call 97; refine (HCm.out _).mono ?_; rintro e w1 ⟨rfl,hb⟩; have B1:Below W0.heap.size W0 w1:=(by first|exact hb|exact hb.start); have d1:w1.cell? ⟨nb,1,none⟩=some (p:Value):=(B1.cell (p:=⟨nb,1,none⟩) hb0.out.1.lt).trans c1; clear hb))
     have B2:=ι (hb0.out.1.below B1 hb0.out.1.lt);have BB:Hid (Below w.heap.size w w1):=ι (hb0.out.2.nxt B1);have c0:w1.cell? ⟨nb,0,none⟩=some (.int .i64 (k:Int)):=B2.out.cell 0;exact z_20
    |cons b r=>
     rw [if_neg (by simp [h1])] at HX;obtain ⟨hb15,_⟩:=Nib.fit_cons hf;have hb16:b.toNat<16:=by rw [UInt8.le_iff_toNat_le] at hb15; simp at hb15; omega
     have hbI:(b.toNat:Int)<16:=by omega
     have hb0:(0:Int)≤b.toNat:=by omega
     have HTl:=run_tail b r;have ne1:((b::r).toArray=#[])=False:=by simp
     have ne2:(b::r).isEmpty=false:=rfl;have hix:∀ W,(Instr.index 9 (.string ⟨(b::r).toArray⟩) (.int .i64 0)).run Tryz.prog W= .ok (.int .u8 (b.toNat:Int)) W:=fun W=>run_byte (b::r) 0 (by simp) W;have HX2:Hid (X=if K.getD b.toNat []= [] then ([],[]) else (K.getD b.toNat [],r)):=ι HX.out;clear hle hc hpl hf h1 h2 HX hb15;generalize hl':(b::r)=left at *;clear hl';have HB16:=ι hb16;clear hb16;go_enter Tryz.func113,Tryz.ntmps113
     go_upto_region 1 with fail
     obtain ⟨nb,hnb⟩:∃ nb,w.heap.size=nb:=⟨_,rfl⟩
     have hb0:Hid (Blk (w.alloc (.cells (nodeV k p v K).toArray 133)) nb 133 (nodeV k p v K).toArray∧Below w.heap.size w (w.alloc (.cells (nodeV k p v K).toArray 133))):=ι (by subst hnb; exact ⟨Blk.new _ _ _,by go_grown⟩);rw [hnb];generalize w.alloc (.cells (nodeV k p v K).toArray 133)=W0 at hb0 ⊢;clear hnb;have c1:W0.cell? ⟨nb,1,none⟩=some (p:Value):=hb0.out.1.cell 1;go_region_held3 (fun w'=>w'.cell? ⟨nb,1,none⟩=some (p:Value)) (first|go_keep|assumption) ((go_at_call 97; refine (HCm.out _).mono ?_; rintro e w1 ⟨rfl,hb⟩; have B1:Below W0.heap.size W0 w1:=(by first|exact hb|exact hb.start); have d1:w1.cell? ⟨nb,1,none⟩=some (p:Value):=(B1.cell (p:=⟨nb,1,none⟩) hb0.out.1.lt).trans c1; clear hb))
     have B2:=ι (hb0.out.1.below B1 hb0.out.1.lt);have BB:Hid (Below w.heap.size w w1):=ι (hb0.out.2.nxt B1);have c0:w1.cell? ⟨nb,0,none⟩=some (.int .i64 (k:Int)):=B2.out.cell 0;have c2:w1.cell? ⟨nb,2,none⟩=some (v:Value):=B2.out.cell 2;have c3:∀ i,i<16→w1.cell? ⟨nb,3+i,none⟩=some (.string ⟨(K.getD i []).toArray⟩):=fun i hi=>by
      exact z_19
     have HC3:=ι c3;clear c3 c1 hb0 B1;have c3:=HC3.out b.toNat HB16.out;generalize K.getD b.toNat []=kd at *;generalize b.toNat=bn at *;by_cases hkd:kd= []
     ·subst hkd;rw [if_pos rfl] at HX2;go_wp2_with fail
      exact HP.out _ _ _ HX2.out BB.out
     ·rw [if_neg hkd] at HX2;have ne3:(kd.toArray=#[])=False:=by simp [hkd]
      have ne4:kd.isEmpty=false:=by simp [hkd]
      clear hkd;go_wp2_with fail
      go_quiet (fail)
      go_wp2_with fail
      exact HP.out _ _ _ HX2.out (below_drewN BB.out _)
 ·rw [if_pos hc] at HX;have hcI:((Nib.common p left:Int)==(p.length:Int))=false:=by simp; omega
  clear hle hc hf;generalize Nib.common p left=cm at *;go_enter Tryz.func113,Tryz.ntmps113
  go_upto_region 1 with fail
  obtain ⟨nb,hnb⟩:∃ nb,w.heap.size=nb:=⟨_,rfl⟩
  have hb0:Hid (Blk (w.alloc (.cells (nodeV k p v K).toArray 133)) nb 133 (nodeV k p v K).toArray∧Below w.heap.size w (w.alloc (.cells (nodeV k p v K).toArray 133))):=ι (by subst hnb; exact ⟨Blk.new _ _ _,by go_grown⟩);rw [hnb];generalize w.alloc (.cells (nodeV k p v K).toArray 133)=W0 at hb0 ⊢;clear hnb;have c1:W0.cell? ⟨nb,1,none⟩=some (p:Value):=hb0.out.1.cell 1;go_region_held3 (fun w'=>w'.cell? ⟨nb,1,none⟩=some (p:Value)) (first|go_keep|assumption) ((go_at_call 97; refine (HCm.out _).mono ?_; rintro e w1 ⟨rfl,hb⟩; have B1:Below W0.heap.size W0 w1:=(by first|exact hb|exact hb.start); have d1:w1.cell? ⟨nb,1,none⟩=some (p:Value):=(B1.cell (p:=⟨nb,1,none⟩) hb0.out.1.lt).trans c1; clear hb))
  have B2:=ι (hb0.out.1.below B1 hb0.out.1.lt);have BB:Hid (Below w.heap.size w w1):=ι (hb0.out.2.nxt B1);have c0:w1.cell? ⟨nb,0,none⟩=some (.int .i64 (k:Int)):=B2.out.cell 0;have c2:w1.cell? ⟨nb,2,none⟩=some (v:Value):=B2.out.cell 2;have c3:∀ i,i<16→w1.cell? ⟨nb,3+i,none⟩=some (.string ⟨(K.getD i []).toArray⟩):=fun i hi=>by
   exact z_19
  have HC3:=ι c3;clear c3 c1 hb0 B1;go_wp2_with fail
  exact HP.out _ _ _ HX.out BB.out
end
section
open Go.RowKit Go.Instr
attribute [local go_sem] ba_get ByteArray.mk_append_mk
attribute [local go_sem ↓] Go.wp_at_zero Go.wp_at_succ
theorem str_at {w:World} {B:Nat} {A:Option Addr} {l:List (List UInt8)} (h:Reads w B 1 A l.length (strv l)) {i:Nat} (hi:i<l.length):
  ∃ ad off,A=some ⟨ad,off,none⟩∧ad<B∧∀ w',Below B w w'→w'.cell? ⟨ad,off+i,none⟩=some (.string ⟨l[i].toArray⟩):=by
 obtain ⟨ad,off,rfl,hbl,hcell⟩:=h.form (by omega) (by omega);refine ⟨ad,off,rfl,hbl,fun w' hb=> ?_⟩;have q:=hcell i (by simp [strv]; exact hi);simp only [strv,List.getElem_map] at q;exact (hb.cell (p:=⟨ad,off+i,none⟩) hbl).trans q
theorem few_cell {w:World} {B:Nat} {A:Option Addr} {l:List (List UInt8)} (h:Reads w B 1 A l.length (strv l)) {i:Nat} (hi:i<l.length):
  ∃ ad off,A=some ⟨ad,off,none⟩∧ad<B∧∀ w',Below B w w'→w'.cell? ⟨ad,off+i,none⟩=some (.string ⟨l[i].toArray⟩):=by
 obtain ⟨ad,off,rfl,hbl,hcell⟩:=h.form (by omega) (by omega);refine ⟨ad,off,rfl,hbl,fun w' hb=> ?_⟩;have q:=hcell i (by rw [strv_length]; exact hi);have e:=strv_at hi;rw [List.getElem?_eq_getElem (by rw [strv_length]; exact hi)] at e;rw [Option.some.inj e] at q;exact (hb.cell (p:=⟨ad,off+i,none⟩) hbl).trans q
end
section
open Go.RowKit Go.Instr
attribute [local go_sem] ba_get ByteArray.mk_append_mk
def FollowEnd (w:World) (r:List UInt8 × Nat × Bool) (e:Ending) (w':World):Prop:=e= .returned (.tuple #[r.1,r.2.1,r.2.2])∧Below w.heap.size w w'
theorem step_rest {n:Nd} {l:List UInt8} (h:(stepW n l).1≠ []) (hf:Nib.fit l=true):Nib.fit (stepW n l).2=true∧(stepW n l).2.length≤l.length:=by
 obtain ⟨k,p,v,K⟩:=n;rw [stepW_eq] at h ⊢
 split at h
 ·exact absurd rfl h
 rename_i h1;rw [if_neg h1]
 split at h
 ·rename_i h2;rw [if_pos h2];exact ⟨Trie.fit_drop _ hf,by rw [List.length_drop]; omega⟩
 rename_i h2;rw [if_neg h2]
 split at h
 ·exact absurd rfl h
 rename_i h3;rw [if_neg h3]
 split at h
 ·exact absurd rfl h
 rename_i h4;rw [if_neg h4]
 split at h
 ·exact absurd rfl h
 rename_i h5;rw [if_neg h5];cases l with
 |nil=>exact ⟨rfl,Nat.le_refl _⟩
 |cons b r=>exact ⟨(Nib.fit_cons hf).2,by simp⟩
theorem decN_small (s:List UInt8):(decN s).1.2.1.length≤16∧(decN s).1.2.2.2.length=16:=by
 rcases decN_cases s with h|⟨n,h,h1,h2,_⟩
 ·rw [h]; exact ⟨Nat.zero_le _,rfl⟩
 ·rw [h];exact ⟨(fineN_parts h2).2.2.1,h1⟩
theorem proof_follow (w:World) (sought left:List UInt8) (nodes:List (List UInt8)) (A:Option Addr) (c:Nat) (HR:Reads w w.heap.size 1 A nodes.length (strv nodes)) (hn:nodes.length≤100000) (hs:∀ x∈nodes,x.length≤999999) (hl:left.length≤100000) (hf:Nib.fit left=true) (hT:Tbl w):
  Calls Tryz.prog 68 #[sought,left,.slice A nodes.length c] w (FollowEnd w (followW sought left nodes 0)):=by
 have HP:Hid (∀ (v:List UInt8) (t:Nat) b w',followW sought left nodes 0=(v,t,b)→Below w.heap.size w w'→FollowEnd w (followW sought left nodes 0) (.returned (.tuple #[v,t,b])) w'):=ι (fun v t b w' e h=>by rw [e]; exact ⟨rfl,h⟩);generalize FollowEnd w (followW sought left nodes 0)=P at HP ⊢;have H0:Hid (followW sought left nodes 0=followW sought left (nodes.drop 0) 0):=ι rfl;generalize followW sought left nodes 0=X at *;have HRR:=ι HR;have HS:=ι hs;have HTb:=ι hT;have HL:=ι (And.intro hn hl);have HF0:=ι hf;clear HR hs hT hf hn hl;go_enter Tryz.func68,Tryz.ntmps68
 go_wp2_with fail
 refine wp_scope_ghost 0 (fun _ _ _=>False) rfl ?_ (fun _ _ _ h=>h.elim);intro K0 hK0;go_wp2_with fail
 go_step3
 go_wp2_with fail
 refine wp_loop_ghost_k (fun k a wr=>∀ Φ:Act→Prop,(∀ ⦃s2 s3 s4 s5 s6 s8 s9 s0 s1 s7 a0 a2 a3 a4 a5 a6 a7 a8 a9 b0 b1 b2 b3 b4 b5 b6 b7 b8 b9 c0 c1 c2 c3 c4 c5 c6 c7 c8 c9 d0 d1 d2 d3 d4 d5 d6 d7 d8 d9 e0:Value⦄ (i:Nat) (s l:List UInt8),(i+k=nodes.length∧X=followW s l (nodes.drop i) i∧Nib.fit l=true∧l.length≤100000∧Below w.heap.size w wr)→Φ {tmps:=#[.string ⟨s.toArray⟩,.string ⟨l.toArray⟩,s2,s3,s4,s5,s6,.int .i64 (i:Int),s8,s9,s0,s1,s7,a0,a2,a3,a4,.slice A nodes.length c,.int .i64 nodes.length,.int .i64 (i:Int),a5,a6,a7,a8,a9,b0,b1,b2,b3,b4,b5,b6,b7,b8,b9,c0,c1,c2,c3,c4,c5,c6,c7,c8,c9,d0,d1,d2,d3,d4,d5,d6,d7,d8,d9,e0],defers:= []})→Φ a) (nodes.length) ?_ ?_
 ·refine fun Φ hΦ=>hΦ (0) (sought) (left) ?_;exact ⟨by omega,H0.out,HF0.out,HL.out.2,Below.refl _ _⟩
 ·intro k1 a1 wr1 hI1 J1 K1 hJ1 hK1;refine hI1 (fun a=>Code.wp _ _ _ a _) ?_;clear hI1 a1;iterate 50 (intro _)
  intro i s l hrel
  show Code.wp _ _ _ _ _;clear H0 HF0;obtain ⟨h1,h2,h3,h4,hb⟩:=hrel;by_cases hi:i<nodes.length
  ·obtain ⟨ad,off,rfl,hbl,hcell⟩:=few_cell HRR.out hi;have r0:=hcell _ hb;have hd:nodes.drop i=nodes[i]::nodes.drop (i+1):=List.drop_eq_getElem_cons hi;rw [hd,followW_cons] at h2;have hlen:=HS.out _ (List.getElem_mem hi);have HI:=ι h1;have HX:=ι h2;have HF:=ι (And.intro h3 h4);have HB:=ι hb;have hi0:(i:Int)<nodes.length:=by omega
   have hi1:(0:Int)≤i:=by omega
   have hi2:(i:Int)≤100000:=by have:=HL.out.1; omega
   clear h1 h2 h3 h4 hb hd hcell hbl;generalize nodes[i]=x at *;have HSum:Hid (∀ W,Below w.heap.size w W→Calls Tryz.prog 85 #[.int .i64 1,x] W fun e w'=>e= .returned (.tuple #[.string ⟨(shaW (1::x)).toArray⟩,ζ])∧Below W.heap.size W w'):=ι (fun W hW=>digest_Sum W 1 (by omega) (by omega) x hlen (HTb.out.next hW));have HDec:=ι (fun W=>node_Decode W x (by omega));have hsm:=decN_small x;generalize shaW (1::x)=sm at *;generalize decN x=dn at *;obtain ⟨⟨k,p,v,K⟩,dc⟩:=dn;simp only at HX hsm;unfold DecNEnd at HDec;simp only at HDec;have HStep:=ι (fun W=>proof_step W k p v K hsm.2 l (by omega) HF.out.2 HF.out.1);have HRest:=ι (fun h=>step_rest (n:=(k,p,v,K)) (l:=l) h HF.out.1);have SZ:(Tryz.prog.info? 133).map (·.size)=some (nodeV k p v K).length:=by rw [nodeV_size hsm.2]; exact info_node
   have HON:=nodeV_one k p v K;have HSz:=ι (nodeV_size (k:=k) (p:=p) (v:=v) hsm.2);generalize stepW (k,p,v,K) l=st at *;clear hsm hlen;generalize nodeV k p v K=NV at *;go_wp2_with fail
   refine (HSum.out _ HB.out).mono ?_;rintro e w2 ⟨rfl,hb2⟩;have HB2:=ι (HB.out.nxt hb2);clear hb2;go_wp2_with fail
   refine (HDec.out _).mono ?_;rintro e w3 ⟨rfl,hb3⟩;have F3:Hid (Live w (w3.alloc (.cells #[ζ,ε,ε,ε,ε,ε,ε,ε,ε,ε,ε,ε,ε,ε,ε,ε,ε,ε,ε] 133)) [(w3.heap.size,133,#[ζ,ε,ε,ε,ε,ε,ε,ε,ε,ε,ε,ε,ε,ε,ε,ε,ε,ε,ε])]):=ι (Live.one ((HB2.out.nxt hb3).alloc (HB2.out.nxt hb3).size _) (HB2.out.nxt hb3).size (Blk.new _ _ _));have TH:(w3.alloc (.cells #[ζ,ε,ε,ε,ε,ε,ε,ε,ε,ε,ε,ε,ε,ε,ε,ε,ε,ε,ε] 133)).there w3.heap.size 0 NV.toArray.size:=by
    rw [show NV.toArray.size=19 by rw [List.size_toArray]; exact HSz.out];exact F3.out.there 0 19 rfl (by decide)
   have SZ2:(Tryz.prog.info? 133).map (·.size)=some NV.toArray.size:=by rw [List.size_toArray]; exact SZ
   clear hb3 r0;go_upto_region 6 with ((with_reducible refine at_put 31 ?_); refine wpList_store_mid rfl 133 _ _ rfl w3.heap.size 0 NV.toArray rfl rfl TH SZ2 HON ?_)
   have F4:=Live.hall F3 0 NV.toArray.toList rfl HSz.out.symm;generalize World.setCells _ w3.heap.size 0 _=W4 at F4 ⊢;generalize w3.heap.size=nb at F4 ⊢;clear TH SZ2 F3 HON;have RA:=Blk.range0 (F4.out.blk 0 rfl);by_cases hsm:sm=s
   ·subst hsm;have hs1:(sm==sm)=true:=by simp
    by_cases hdc:dc=0
    ·subst hdc;rw [if_neg (by simp)] at HX;obtain ⟨nx,rs⟩:=st;simp only at HX HRest;by_cases hnx:nx= []
     ·subst hnx;rw [if_pos rfl] at HX;clear HRest;go_wp2_with (first|((with_reducible refine at_op 43 ?_); refine wpList_load_want (by rfl) 133 _ rfl nb 0 rfl _ _ RA Tryz.underlying133 rfl SZ ?_)|fail)
      refine (HStep.out _).mono ?_;rintro e w5 ⟨rfl,hb5⟩;have HB5:=ι (F4.out.b.nxt hb5);clear hb5 RA;go_wp2_with fail
      exact HP.out _ (i+1) _ _ HX.out HB5.out
     ·rw [if_neg hnx] at HX;have ne1:(nx.toArray=#[])=False:=by simp [hnx]
      have ne2:nx.isEmpty=false:=by simp [hnx]
      have HRs:=ι (HRest.out hnx);clear HRest hnx;go_wp2_with (first|((with_reducible refine at_op 43 ?_); refine wpList_load_want (by rfl) 133 _ rfl nb 0 rfl _ _ RA Tryz.underlying133 rfl SZ ?_)|fail)
      refine (HStep.out _).mono ?_;rintro e w5 ⟨rfl,hb5⟩;have HB5:=ι (F4.out.b.nxt hb5);clear hb5 RA;go_wp2_with fail
      refine Handed.intro (nodes.length - (i+1)) ?_ (hJ1 _ _ _ (fun Φ hΦ=>hΦ (i+1) (nx) (rs) ?_))
      ·have:=HI.out; omega
      ·exact ⟨by have:=HI.out; omega,HX.out,HRs.out.1,Nat.le_trans HRs.out.2 HF.out.2,HB5.out⟩
    ·rw [if_pos (.inr hdc)] at HX;have hdI:((dc:Int) !=0)=true:=by simp; exact hdc
     clear hdc HRest HStep;go_wp2_with fail
     exact HP.out _ i _ _ HX.out F4.out.b
   ·rw [if_pos (.inl hsm)] at HX;have hs1:(sm==s)=false:=by simp [hsm]
    clear hsm HRest HStep;go_wp2_with fail
    exact HP.out _ i _ _ HX.out F4.out.b
  ·have hi0:((i:Int)<nodes.length)=False:=by simp; omega
   have HX:Hid (X=([],i,false)):=ι (by rw [h2,List.drop_of_length_le (by omega)]; rfl);have HB:=ι hb;clear h1 h2 h3 h4 hb hi;go_wp2_with fail
   exact HP.out _ i _ _ HX.out HB.out
theorem proof_keyed (key:List UInt8) (hk:key.length≤9223372036854775807) (w:World):
  Calls Tryz.prog 66 #[key] w fun e w'=>e= .returned (.bool (Trie.keyedW key))∧w=w':=by
 have HP:Hid (∀ b w',Trie.keyedW key=b→w=w'→(fun e w'=>e=Ending.returned (.bool (Trie.keyedW key))∧w=w') (Ending.returned (.bool b)) w'):=ι (fun b w' h1 h2=>⟨by rw [h1],h2⟩);generalize (fun e w'=>e=Ending.returned (.bool (Trie.keyedW key))∧w=w')=P at HP ⊢;cases key with
 |nil=>
  go_enter Tryz.func66,Tryz.ntmps66
  go_wp2
  exact HP.out _ _ rfl rfl
 |cons a r=>
  have ne1:((a::r).toArray=#[])=False:=by simp
  by_cases h8:(a::r).length≤8
  ·have HR:Hid (Trie.keyedW (a::r)=true):=ι (by simp [Trie.keyedW]; simpa using h8);have e8:((a::r).length:Int)≤8:=by omega
   have ne2:(a::r).isEmpty=false:=rfl;clear h8;generalize ha:(a::r)=l at *;clear ha;go_enter Tryz.func66,Tryz.ntmps66
   go_wp2
   exact HP.out _ _ HR.out rfl
  ·have HR:Hid (Trie.keyedW (a::r)=false):=ι (by simp [Trie.keyedW]; simp at h8; omega);have e8:(((a::r).length:Int)≤8)=False:=by simp at h8 ⊢; omega
   have ne2:(a::r).isEmpty=false:=rfl;clear h8;generalize ha:(a::r)=l at *;clear ha;go_enter Tryz.func66,Tryz.ntmps66
   go_wp2
   exact HP.out _ _ HR.out rfl
def VerEnd (w:World) (r:List UInt8 × Bool × Nat) (e:Ending) (w':World):Prop:=e= .returned (.tuple #[r.1,r.2.1,r.2.2])∧Below w.heap.size w w'
theorem keyed_short {key:List UInt8} (h:Trie.keyedW key=true):key.length≤8:=by
 unfold Trie.keyedW at h;simp at h
 exact h.2
theorem proof_Verify (w:World) (root key:List UInt8) (hk:key.length≤9223372036854775807) (nodes:List (List UInt8)) (A:Option Addr) (c:Nat) (HR:Reads w w.heap.size 1 A nodes.length (strv nodes)) (hn:nodes.length≤100000) (hs:∀ x∈nodes,x.length≤999999) (hT:Tbl w):
  Calls Tryz.prog 24 #[root,key,.slice A nodes.length c] w (VerEnd w (verifyW root key nodes)):=by
 have HP:Hid (∀ (v:List UInt8) b (cd:Nat) w',verifyW root key nodes=(v,b,cd)→Below w.heap.size w w'→VerEnd w (verifyW root key nodes) (.returned (.tuple #[v,b,cd])) w'):=ι (fun v b t w' e h=>by rw [e]; exact ⟨rfl,h⟩);have HX:Hid (verifyW root key nodes=if Trie.keyedW key=false then ([],false,1)
 else if root= [] then (if nodes= [] then ([],false,0) else ([],false,130))
 else if (followW root (Nib.of key) nodes 0).2.2=true∧(followW root (Nib.of key) nodes 0).2.1=nodes.length then ((followW root (Nib.of key) nodes 0).1,decide ((followW root (Nib.of key) nodes 0).1≠ []),0)
 else ([],false,130)):=ι rfl
 generalize VerEnd w (verifyW root key nodes)=P at HP ⊢;generalize verifyW root key nodes=X at *;have HKy:=ι (proof_keyed key hk w);cases hkey:Trie.keyedW key with
 |false=>
  rw [if_pos hkey] at HX;rw [hkey] at HKy;clear HR hs hT;go_enter Tryz.func24,Tryz.ntmps24
  go_wp2_with fail
  refine HKy.out.mono ?_;rintro e w1 ⟨rfl,rfl⟩;go_wp2_with fail
  exact HP.out _ _ 1 _ HX.out (Below.refl _ _)
 |true=>
  rw [if_neg (by simp [hkey])] at HX;rw [hkey] at HKy;have hk8:=keyed_short hkey;by_cases hr:root= []
  ·subst hr;rw [if_pos rfl] at HX;clear HR hs hT;by_cases hnn:nodes= []
   ·subst hnn;rw [if_pos rfl] at HX;go_enter Tryz.func24,Tryz.ntmps24
    go_wp2_with fail
    refine HKy.out.mono ?_;rintro e w1 ⟨rfl,rfl⟩;go_wp2_with fail
    exact HP.out _ _ 0 _ HX.out (Below.refl _ _)
   ·rw [if_neg hnn] at HX;have hpos:(0:Int)<nodes.length:=by have:=List.length_pos_iff.2 hnn; omega
    clear hnn;go_enter Tryz.func24,Tryz.ntmps24
    go_wp2_with fail
    refine HKy.out.mono ?_;rintro e w1 ⟨rfl,rfl⟩;go_wp2_with fail
    exact HP.out _ _ 130 _ HX.out (Below.refl _ _)
  ·rw [if_neg hr] at HX;have ne1:(root.toArray=#[])=False:=by simp [hr]
   have ne2:root.isEmpty=false:=by simp [hr]
   have HOf:=ι (fun W=>nib_Of key W (by omega));have HFo:Hid (∀ W,Below w.heap.size w W→Calls Tryz.prog 68 #[root,.string ⟨(Nib.of key).toArray⟩,.slice A nodes.length c] W (FollowEnd W (followW root (Nib.of key) nodes 0))):=ι (fun W hW=>
    proof_follow W root (Nib.of key) nodes A c ((HR.below hW).more hW.size) hn hs (by rw [Nib.of_length]; omega) (Nib.fit_of key) (hT.next hW))
   have hle:=followW_le nodes root (Nib.of key) 0;generalize followW root (Nib.of key) nodes 0=fr at *;obtain ⟨v,t,b⟩:=fr;simp only at HX HFo hle;unfold FollowEnd at HFo;simp only at HFo;generalize Nib.of key=q at *;clear HR hs hT hr hk hn hk8 hkey;go_enter Tryz.func24,Tryz.ntmps24
   go_wp2_with fail
   refine HKy.out.mono ?_;rintro e w1 ⟨rfl,rfl⟩;go_wp2_with fail
   refine (HOf.out _).mono ?_;rintro e w2 ⟨rfl,hb2⟩;have HB2:=ι hb2;clear hb2;go_wp2_with fail
   refine (HFo.out _ HB2.out).mono ?_;rintro e w3 ⟨rfl,hb3⟩;have HB3:=ι (HB2.out.nxt hb3);clear hb3 HKy HOf HFo;cases b with
   |false=>
    rw [if_neg (by simp)] at HX;go_wp2_with fail
    exact HP.out _ _ 130 _ HX.out HB3.out
   |true=>
    by_cases ht:t=nodes.length
    ·rw [if_pos ⟨rfl,ht⟩] at HX;have htI:((t:Int) !=(nodes.length:Int))=false:=by simp; omega
     by_cases hv:v= []
     ·subst hv;clear ht hle;go_wp2_with fail
      exact HP.out _ _ 0 _ HX.out HB3.out
     ·rw [decide_eq_true (show v≠ [] from hv)] at HX;have ne3:(v.toArray=#[])=False:=by simp [hv]
      have ne4:v.isEmpty=false:=by simp [hv]
      clear ht hle hv;go_wp2_with fail
      exact HP.out _ _ 0 _ HX.out HB3.out
    ·rw [if_neg (fun h=>ht h.2)] at HX;have htI:((t:Int) !=(nodes.length:Int))=true:=by simp; omega
     clear ht hle;go_wp2_with fail
     exact HP.out _ _ 130 _ HX.out HB3.out
def TextsCEnd (w:World) (r:List (List UInt8) × Nat) (e:Ending) (w':World):Prop:=
 ∃ A n c,e= .returned (.tuple #[.slice A n c,r.2])∧n=r.1.length∧w'.ownsRow w.heap.size 9 1 (.slice A n c) n (strv r.1)∧Below w.heap.size w w'
def proveW (t:Trie.T) (key:List UInt8):List (List UInt8) × Nat:=if Trie.keyedW key then (toldW (trailW (Nib.of key)) t,0) else ([],1)
theorem proof_Prove (w:World) (t:Trie.T) (v:Value) (h:TrieP w t v) (hc:Trie.count t≤20000) (key:List UInt8) (hk:key.length≤9223372036854775807):
  Calls Tryz.prog 23 #[v,.string ⟨key.toArray⟩] w (TextsCEnd w (proveW t key)):=by
 have HP:Hid (∀ l (cd:Nat),proveW t key=(l,cd)→∀ A n c w',n=l.length→w'.ownsRow w.heap.size 9 1 (.slice A n c) n (strv l)→Below w.heap.size w w'→TextsCEnd w (proveW t key) (.returned (.tuple #[.slice A n c,cd])) w'):=ι (fun l cd e A n c w' h1 h2 h3=>by rw [e]; exact ⟨A,n,c,rfl,h1,h2,h3⟩);generalize TextsCEnd w (proveW t key)=P at HP ⊢;have HKy:=ι (proof_keyed key hk w);have HT:=ι h;cases hkey:Trie.keyedW key with
 |false=>
  have HE:Hid (proveW t key=([],1)):=ι (by unfold proveW; rw [if_neg (by simp [hkey])]);rw [hkey] at HKy;clear h;go_enter Tryz.func23,Tryz.ntmps23
  go_wp2_with fail
  refine HKy.out.mono ?_;rintro e w1 ⟨rfl,rfl⟩;go_wp2_with fail
  exact HP.out [] 1 HE.out none 0 0 _ rfl (World.ownsRow_nil _ _ _ _) (Below.refl _ _)
 |true=>
  have HE:Hid (proveW t key=(toldW (trailW (Nib.of key)) t,0)):=ι (by unfold proveW; rw [if_pos hkey]);rw [hkey] at HKy;have HTr:=ι (trie_Trail w t v h hc key (by have:=keyed_short hkey; omega));generalize toldW (trailW (Nib.of key)) t=l at *;clear h;go_enter Tryz.func23,Tryz.ntmps23
  go_wp2_with fail
  refine HKy.out.mono ?_;rintro e w1 ⟨rfl,rfl⟩;go_wp2_with fail
  refine HTr.out.mono ?_;rintro e w2 ⟨A,n,c,rfl,h1,h2,h3⟩;have HH:=ι (And.intro h1 (And.intro h2 h3));clear h1 h2 h3;go_wp2_with fail
  exact HP.out l 0 HE.out A n c _ HH.out.1 HH.out.2.1 HH.out.2.2
end
section
open Go.RowKit Go.Instr
attribute [local go_sem] ba_get ByteArray.mk_append_mk
attribute [local go_sem ↓] Go.wp_at_zero Go.wp_at_succ
def treeF (l:List (Int × List UInt8 × Int)):Trie.T × Nat:=if 8<l.length then (.nil,2) else treeW .nil 0 l
theorem treeW_count:∀ (l:List (Int × List UInt8 × Int)) (t:Trie.T) (k:Nat),Trie.count (treeW t k l).1≤Trie.count t+l.length
 | [],t,k=>by simp [treeW]
 |x::l,t,k=>by
  rw [treeW]
  split
  ·have h1:=treeW_count l (Trie.put t (Nib.of [UInt8.ofNat k]) (encW x.1 x.2.1 x.2.2).1) (k+1);have h2:=Trie.count_put t (Nib.of [UInt8.ofNat k]) (encW x.1 x.2.1 x.2.2).1;rw [List.length_cons]; omega
  ·simp [Trie.count]
theorem treeF_count (l:List (Int × List UInt8 × Int)):Trie.count (treeF l).1≤8:=by
 unfold treeF
 split
 ·simp [Trie.count]
 ·have:=treeW_count l .nil 0
  simp only [Trie.count] at this; omega
theorem receipt_treeF (l:List (Int × List UInt8 × Int)) (hs:∀ x∈l,x.2.1.length≤9223372036854775807) (w:World) (hT:Tbl w) (A:Option Addr) (c:Nat) (HR:Reads w w.heap.size 3 A l.length (rcells l)):
  Calls Tryz.prog 75 #[.slice A l.length c] w (TPutEnd w (treeF l).1 (treeF l).2):=by
 by_cases hl:8<l.length
 ·have HP:Hid (∀ w',Below w.heap.size w w'→TPutEnd w (treeF l).1 (treeF l).2 (.returned (.tuple #[.pointer none,.int .i64 2])) w'):=ι (fun w' hb=>by
   unfold treeF;rw [if_pos hl];exact ⟨_,rfl,hb,fun h=>(by cases h),fun _=>rfl⟩)
  generalize TPutEnd w (treeF l).1 (treeF l).2=P at HP ⊢;have hl1:(8:Int)<(l.length:Int):=by omega
  clear hl HR hT hs;go_enter Tryz.func75,Tryz.ntmps75
  go_wp2_with fail
  exact HP.out _ (Below.refl _ _)
 ·have:=receipt_tree l (by omega) hs w hT A c HR
  unfold treeF
  rwa [if_neg hl]
theorem receipt_RootF (l:List (Int × List UInt8 × Int)) (hs:∀ x∈l,x.2.1.length≤9223372036854775807) (w:World) (hT:Tbl w) (A:Option Addr) (c:Nat) (HR:Reads w w.heap.size 3 A l.length (rcells l)):
  Calls Tryz.prog 44 #[.slice A l.length c] w (RRootEnd w (treeF l)):=by
 have HTr:=ι (receipt_treeF l hs w hT A c HR);generalize treeF l=r at *;obtain ⟨t,cd⟩:=r;clear HR hT hs;by_cases hc:cd=0
 ·subst hc;have HP:Hid (∀ w',Below w.heap.size w w'→RRootEnd w (t,0) (.returned (.tuple #[.string ⟨(Trie.sumT t).toArray⟩,ζ])) w'):=ι (fun w' hb=>⟨rfl,hb⟩);generalize RRootEnd w (t,0)=P at HP ⊢;go_enter Tryz.func44,Tryz.ntmps44
  go_wp2_with fail
  refine HTr.out.mono ?_;rintro e w1 ⟨v,rfl,hb,hk,_⟩;have HB:=ι hb;have HK:=ι (hk (by first|exact trivial|rfl));clear hb hk;go_wp2_with fail
  refine (trie_Root _ _ _ HK.out).mono ?_;rintro e w2 ⟨rfl,rfl⟩;go_wp2_with fail
  exact HP.out _ HB.out
 ·have HP:Hid (∀ w',Below w.heap.size w w'→RRootEnd w (t,cd) (.returned (.tuple #[ε,cd])) w'):=ι (fun w' hb=>⟨by simp [hc],hb⟩);generalize RRootEnd w (t,cd)=P at HP ⊢;have hc1:((cd:Int) !=0)=true:=by simp; exact hc
  clear hc;go_enter Tryz.func44,Tryz.ntmps44
  go_wp2_with fail
  refine HTr.out.mono ?_;rintro e w1 ⟨v,rfl,hb,_,_⟩;have HB:=ι hb;clear hb;go_wp2_with fail
  exact HP.out _ HB.out
def proveF (l:List (Int × List UInt8 × Int)) (at_:Int):List (List UInt8) × Nat:=
 if (treeF l).2≠0 then ([],(treeF l).2) else if at_<0∨255<at_ then ([],1) else proveW (treeF l).1 [UInt8.ofNat at_.toNat]
theorem receipt_Prove (l:List (Int × List UInt8 × Int)) (hs:∀ x∈l,x.2.1.length≤9223372036854775807) (at_:Int) (w:World) (hT:Tbl w) (A:Option Addr) (c:Nat) (HR:Reads w w.heap.size 3 A l.length (rcells l)):
  Calls Tryz.prog 30 #[.slice A l.length c,at_] w (TextsCEnd w (proveF l at_)):=by
 have HTr:=ι (receipt_treeF l hs w hT A c HR);have hcn:=treeF_count l;have HX:Hid (proveF l at_=if (treeF l).2≠0 then ([],(treeF l).2) else if at_<0∨255<at_ then ([],1) else proveW (treeF l).1 [UInt8.ofNat at_.toNat]):=ι rfl;have HP:Hid (∀ q (cd:Nat),proveF l at_=(q,cd)→∀ A n c w',n=q.length→w'.ownsRow w.heap.size 9 1 (.slice A n c) n (strv q)→Below w.heap.size w w'→TextsCEnd w (proveF l at_) (.returned (.tuple #[.slice A n c,cd])) w'):=ι (fun q cd e A n c w' h1 h2 h3=>by rw [e]; exact ⟨A,n,c,rfl,h1,h2,h3⟩);generalize TextsCEnd w (proveF l at_)=P at HP ⊢;generalize treeF l=r at *;obtain ⟨t,cd⟩:=r;simp only at hcn HX;clear HR hT hs;by_cases hc:cd=0;rotate_left
 ·have hc1:((cd:Int) !=0)=true:=by simp; exact hc
  have HE:Hid (proveF l at_=([],cd)):=ι (by rw [HX.out,if_pos hc]);clear hc HX;go_enter Tryz.func30,Tryz.ntmps30
  go_wp2_with fail
  refine HTr.out.mono ?_;rintro e w1 ⟨v,rfl,hb,_,_⟩;have HB:=ι hb;clear hb;go_wp2_with fail
  exact HP.out [] cd HE.out none 0 0 w1 rfl (World.ownsRow_nil _ _ _ _) HB.out
 subst hc;by_cases hat:at_<0∨255<at_
 ·have HE:Hid (proveF l at_=([],1)):=ι (by rw [HX.out,if_neg (by simp),if_pos hat]);clear HX;rcases hat with h|h
  ·have g1:(at_<0)=True:=by simp [h]
   clear h;go_enter Tryz.func30,Tryz.ntmps30
   go_wp2_with fail
   refine HTr.out.mono ?_;rintro e w1 ⟨v,rfl,hb,hk,_⟩;obtain ⟨_,tb,tx,rfl,_⟩:=hk rfl;have HB:=ι hb;clear hb hk;go_wp2_with fail
   exact HP.out [] 1 HE.out none 0 0 w1 rfl (World.ownsRow_nil _ _ _ _) HB.out
  ·have g1:(at_<0)=False:=by simp; omega
   have g2:(255<at_)=True:=by simp [h]
   clear h;go_enter Tryz.func30,Tryz.ntmps30
   go_wp2_with fail
   refine HTr.out.mono ?_;rintro e w1 ⟨v,rfl,hb,hk,_⟩;obtain ⟨_,tb,tx,rfl,_⟩:=hk rfl;have HB:=ι hb;clear hb hk;go_wp2_with fail
   exact HP.out [] 1 HE.out none 0 0 w1 rfl (World.ownsRow_nil _ _ _ _) HB.out
 ·have g1:(at_<0)=False:=by simp; omega
  have g2:(255<at_)=False:=by simp; omega
  have HE:Hid (proveF l at_=proveW t [UInt8.ofNat at_.toNat]):=ι (by rw [HX.out,if_neg (by simp),if_neg hat]);obtain ⟨k,rfl⟩:=Int.eq_ofNat_of_zero_le (show 0≤at_ by omega);simp only [Int.toNat_natCast] at HE;have HKey:=ι (fun W=>receipt_key k (by omega) W);clear HX hat;go_enter Tryz.func30,Tryz.ntmps30
  go_wp2_with fail
  refine HTr.out.mono ?_;rintro e w1 ⟨v,rfl,hb,hk,_⟩;have HK:=ι (hk rfl);obtain ⟨_,tb,tx,rfl,_⟩:=hk rfl;have HB:=ι hb;clear hb hk;go_wp2_with fail
  refine (HKey.out _).mono ?_;rintro e w2 ⟨rfl,hb2⟩;have HB2:=ι (HB.out.nxt hb2);have HPr:=ι (proof_Prove w2 t _ (HK.out.next hb2) (by omega) [UInt8.ofNat k] (by simp));obtain ⟨q,qc,hq⟩:∃ q qc,proveW t [UInt8.ofNat k]=(q,qc):=⟨_,_,rfl⟩
  rw [hq] at HPr HE;clear hb2 hq;go_wp2_with fail
  refine HPr.out.mono ?_;rintro e w3 ⟨A3,n3,c3,rfl,hn3,own3,hb3⟩;have HO:=ι (And.intro hn3 (own_lower own3 HB2.out.size));have HB3:=ι (HB2.out.nxt hb3);clear own3 hb3 hn3;go_wp2_with fail
  exact HP.out q qc HE.out A3 n3 c3 w3 HO.out.1 HO.out.2 HB3.out
theorem stepW_short {n:Nd} {l:List UInt8} (hv:n.2.2.1.length≤32):(stepW n l).2.length≤32+l.length∧((stepW n l).1≠ []→(stepW n l).2.length≤l.length):=by
 unfold stepW
 split
 ·simp
 ·split
  ·simp; omega
  ·split
   ·simp
   ·split
    ·exact ⟨by simp only; omega,fun h=>absurd rfl h⟩
    ·split
     ·simp
     ·simp; omega
theorem followW_short:∀ (r:List (List UInt8)) (s l:List UInt8) (k:Nat),(followW s l r k).1.length≤32+l.length
 | [],_,_,_=>by simp [followW]
 |x::r,s,l,k=>by
  rw [followW_cons]
  split
  ·simp
  ·rename_i h;simp only [not_or,ne_eq,Decidable.not_not] at h;obtain ⟨h1,h2,_⟩:=decN_ok (s:=x) (n:=(decN x).1) (by rw [←h.2]);obtain ⟨_,_,_,hv,_⟩:=fineN_parts h2;obtain ⟨a,b⟩:=stepW_short (n:=(decN x).1) (l:=l) hv
   split
   ·exact a
   ·rename_i hne
    have:=followW_short r (stepW (decN x).1 l).1 (stepW (decN x).1 l).2 (k+1)
    have:=b hne
    omega
theorem verifyW_short (root key:List UInt8) (nodes:List (List UInt8)) (hk:key.length≤100):(verifyW root key nodes).1.length≤1000:=by
 unfold verifyW
 split
 ·simp
 ·split
  ·split<;>simp
  ·split
   ·have:=followW_short nodes root (Nib.of key) 0
    rw [Nib.of_length] at this;simp only; omega
   ·simp
def verifyF (root:List UInt8) (at_:Int) (nodes:List (List UInt8)):(Nat × List UInt8 × Nat) × Bool × Nat:=
 if at_<0∨255<at_ then ((0,[],0),false,1)
 else if (verifyW root [UInt8.ofNat at_.toNat] nodes).2.2≠0∨(verifyW root [UInt8.ofNat at_.toNat] nodes).2.1=false then ((0,[],0),false,(verifyW root [UInt8.ofNat at_.toNat] nodes).2.2)
 else if (decW (verifyW root [UInt8.ofNat at_.toNat] nodes).1).2≠0 then ((0,[],0),false,(decW (verifyW root [UInt8.ofNat at_.toNat] nodes).1).2)
 else ((decW (verifyW root [UInt8.ofNat at_.toNat] nodes).1).1,true,0)
def RVerEnd (w:World) (r:(Nat × List UInt8 × Nat) × Bool × Nat) (e:Ending) (w':World):Prop:=e= .returned (.tuple #[rcV (r.1.1:Int) r.1.2.1 (r.1.2.2:Int),.bool r.2.1,.int .i64 (r.2.2:Int)])∧Below w.heap.size w w'
theorem z_21 {P:Prop} (h:P:=by
 clear h;go_enter Tryz.func31,Tryz.ntmps31
 go_upto_region 1 with fail
 generalize World.alloc w _=W0 at b0 ⊢;have HR:=b0;have r0:W0.cell? ⟨w.heap.size,0,none⟩=some (.int .i64 0):=HR.out.1.cell 0;have r1:W0.cell? ⟨w.heap.size,1,none⟩=some (.string ⟨#[]⟩):=HR.out.1.cell 1;have r2:W0.cell? ⟨w.heap.size,2,none⟩=some (.int .i64 0):=HR.out.1.cell 2;have f0:W0.frozen? ⟨w.heap.size,0,none⟩=false:=HR.out.1.frozen 0;have f1:W0.frozen? ⟨w.heap.size,1,none⟩=false:=HR.out.1.frozen 1;have f2:W0.frozen? ⟨w.heap.size,2,none⟩=false:=HR.out.1.frozen 2;go_wp2
 have HW9:Hid (Blk (((W0.setCell ⟨w.heap.size,0,none⟩ (.int .i64 0)).setCell ⟨w.heap.size,1,none⟩ (.string ⟨#[]⟩)).setCell ⟨w.heap.size,2,none⟩ (.int .i64 0)) w.heap.size 75 #[ζ,ε,ζ]∧Below w.heap.size w (((W0.setCell ⟨w.heap.size,0,none⟩ (.int .i64 0)).setCell ⟨w.heap.size,1,none⟩ (.string ⟨#[]⟩)).setCell ⟨w.heap.size,2,none⟩ (.int .i64 0))):=Lib.hid
  ⟨((HR.out.1.set_ 0 (.int .i64 0)).set_ 1 (.string ⟨#[]⟩)).set_ 2 (.int .i64 0),((HR.out.2.setCell (p:=⟨w.heap.size,0,none⟩) (Nat.le_refl _) _).setCell (p:=⟨w.heap.size,1,none⟩) (Nat.le_refl _) _).setCell (p:=⟨w.heap.size,2,none⟩) (Nat.le_refl _) _⟩
 generalize ((W0.setCell ⟨w.heap.size,0,none⟩ (.int .i64 0)).setCell ⟨w.heap.size,1,none⟩ (.string ⟨#[]⟩)).setCell ⟨w.heap.size,2,none⟩ (.int .i64 0)=W9 at HW9 ⊢;have s0:W9.cell? ⟨w.heap.size,0,none⟩=some (.int .i64 0):=HW9.out.1.cell 0;have s1:W9.cell? ⟨w.heap.size,1,none⟩=some (.string ⟨#[]⟩):=HW9.out.1.cell 1;have s2:W9.cell? ⟨w.heap.size,2,none⟩=some (.int .i64 0):=HW9.out.1.cell 2
 (try simp only [Exit.inBlock,Exit.then])
 refine bodyPost_ret (v:= .tuple #[.agg #[ζ,ε,ζ],false,.int .i64 1]) (by simp [results,Tryz.results31,go_sem,s0,s1,s2]) rfl ?_;exact HP.out _ _ _ _ HZ.out HW9.out.2):P:=h
theorem receipt_Verify (root:List UInt8) (at_:Int) (w:World) (hT:Tbl w) (nodes:List (List UInt8)) (A:Option Addr) (c:Nat) (HRd:Reads w w.heap.size 1 A nodes.length (strv nodes)) (hn:nodes.length≤100000) (hs:∀ x∈nodes,x.length≤999999):
  Calls Tryz.prog 31 #[root,at_,.slice A nodes.length c] w (RVerEnd w (verifyF root at_ nodes)):=by
 have HP:Hid (∀ (x:Nat × List UInt8 × Nat) b (cd:Nat) w',verifyF root at_ nodes=(x,b,cd)→Below w.heap.size w w'→RVerEnd w (verifyF root at_ nodes) (.returned (.tuple #[.agg #[x.1,x.2.1,x.2.2],b,cd])) w'):=ι (fun x b cd w' e h=>by rw [e]; exact ⟨rfl,h⟩);generalize hPd:RVerEnd w (verifyF root at_ nodes)=P at HP ⊢;clear hPd;have b0:Hid (Blk (w.alloc (.cells #[ζ,ε,ζ] 75)) w.heap.size 75 #[ζ,ε,ζ]∧Below w.heap.size w (w.alloc (.cells #[ζ,ε,ζ] 75))):=ι ⟨Blk.new w _ _,by go_grown⟩;by_cases hat:at_<0∨255<at_
 ·have HZ:Hid (verifyF root at_ nodes=((0,[],0),false,1)):=ι (by unfold verifyF; rw [if_pos hat]);clear HRd hT hn hs;rcases hat with h|h
  ·have g1:(at_<0)=True:=by simp [h]
   exact z_21
  ·have g1:(at_<0)=False:=by simp; omega
   have g2:(255<at_)=True:=by simp [h]
   exact z_21
 have g1:(at_<0)=False:=by simp; omega
 have g2:(255<at_)=False:=by simp; omega
 have HX:Hid (verifyF root at_ nodes=if (verifyW root [UInt8.ofNat at_.toNat] nodes).2.2≠0∨(verifyW root [UInt8.ofNat at_.toNat] nodes).2.1=false then ((0,[],0),false,(verifyW root [UInt8.ofNat at_.toNat] nodes).2.2)
 else if (decW (verifyW root [UInt8.ofNat at_.toNat] nodes).1).2≠0 then ((0,[],0),false,(decW (verifyW root [UInt8.ofNat at_.toNat] nodes).1).2)
 else ((decW (verifyW root [UInt8.ofNat at_.toNat] nodes).1).1,true,0)):=ι (by rw [verifyF,if_neg hat])
 obtain ⟨k,rfl⟩:=Int.eq_ofNat_of_zero_le (show 0≤at_ by omega);simp only [Int.toNat_natCast] at HX;have HKey:=ι (fun W=>receipt_key k (by omega) W);have HV:=ι (fun W (hW:Below w.heap.size w W)=>proof_Verify W root [UInt8.ofNat k] (by simp) nodes A c ((HRd.below hW).more hW.size) hn hs (hT.next hW));have HSh:=verifyW_short root [UInt8.ofNat k] nodes (by simp);generalize verifyW root [UInt8.ofNat k] nodes=r at *;obtain ⟨v,th,cd⟩:=r;simp only at HSh HX;have HDc:=ι (fun W=>receipt_Decode v (by omega) W);generalize decW v=d at *;obtain ⟨⟨n,t,q⟩,dc⟩:=d;simp only at HX;clear HRd hT hn hs hat HSh;go_enter Tryz.func31,Tryz.ntmps31
 go_upto_region 1 with fail
 generalize World.alloc w _=W0 at b0 ⊢;go_wp2_with fail
 refine (HKey.out _).mono ?_;rintro e w2 ⟨rfl,hb2⟩;have B2:Hid (Blk w2 w.heap.size 75 #[ζ,ε,ζ]∧Below w.heap.size w w2):=ι ⟨b0.out.1.below hb2 b0.out.1.lt,b0.out.2.nxt hb2⟩;clear hb2 b0;go_wp2_with fail
 refine (HV.out _ B2.out.2).mono ?_;rintro e w3 ⟨rfl,hb3⟩;have HR:Hid (Blk w3 w.heap.size 75 #[ζ,ε,ζ]∧Below w.heap.size w w3):=ι ⟨B2.out.1.below hb3 B2.out.1.lt,B2.out.2.nxt hb3⟩;clear hb3 B2;simp only
 by_cases hcd:cd=0;rotate_left
 ·have HZ:Hid (verifyF root (k:Int) nodes=((0,[],0),false,cd)):=ι (by rw [HX.out,if_pos (.inl hcd)]);have hc1:((cd:Int) !=0)=true:=by simp; exact hcd
  clear hcd HX;have r0:w3.cell? ⟨w.heap.size,0,none⟩=some (.int .i64 0):=HR.out.1.cell 0;have r1:w3.cell? ⟨w.heap.size,1,none⟩=some (.string ⟨#[]⟩):=HR.out.1.cell 1;have r2:w3.cell? ⟨w.heap.size,2,none⟩=some (.int .i64 0):=HR.out.1.cell 2;have f0:w3.frozen? ⟨w.heap.size,0,none⟩=false:=HR.out.1.frozen 0;have f1:w3.frozen? ⟨w.heap.size,1,none⟩=false:=HR.out.1.frozen 1;have f2:w3.frozen? ⟨w.heap.size,2,none⟩=false:=HR.out.1.frozen 2;go_wp2
  have HW9:Hid (Blk (((w3.setCell ⟨w.heap.size,0,none⟩ (.int .i64 0)).setCell ⟨w.heap.size,1,none⟩ (.string ⟨#[]⟩)).setCell ⟨w.heap.size,2,none⟩ (.int .i64 0)) w.heap.size 75 #[ζ,ε,ζ]∧Below w.heap.size w (((w3.setCell ⟨w.heap.size,0,none⟩ (.int .i64 0)).setCell ⟨w.heap.size,1,none⟩ (.string ⟨#[]⟩)).setCell ⟨w.heap.size,2,none⟩ (.int .i64 0))):=Lib.hid
   ⟨((HR.out.1.set_ 0 (.int .i64 0)).set_ 1 (.string ⟨#[]⟩)).set_ 2 (.int .i64 0),((HR.out.2.setCell (p:=⟨w.heap.size,0,none⟩) (Nat.le_refl _) _).setCell (p:=⟨w.heap.size,1,none⟩) (Nat.le_refl _) _).setCell (p:=⟨w.heap.size,2,none⟩) (Nat.le_refl _) _⟩
  generalize ((w3.setCell ⟨w.heap.size,0,none⟩ (.int .i64 0)).setCell ⟨w.heap.size,1,none⟩ (.string ⟨#[]⟩)).setCell ⟨w.heap.size,2,none⟩ (.int .i64 0)=W9 at HW9 ⊢;have s0:W9.cell? ⟨w.heap.size,0,none⟩=some (.int .i64 0):=HW9.out.1.cell 0;have s1:W9.cell? ⟨w.heap.size,1,none⟩=some (.string ⟨#[]⟩):=HW9.out.1.cell 1;have s2:W9.cell? ⟨w.heap.size,2,none⟩=some (.int .i64 0):=HW9.out.1.cell 2
  (try simp only [Exit.inBlock,Exit.then])
  refine bodyPost_ret (v:= .tuple #[.agg #[ζ,ε,ζ],false,cd]) (by simp [results,Tryz.results31,go_sem,s0,s1,s2]) rfl ?_;exact HP.out _ _ _ _ HZ.out HW9.out.2
 subst hcd;cases th with
 |false=>
  have HZ:Hid (verifyF root (k:Int) nodes=((0,[],0),false,0)):=ι (by rw [HX.out,if_pos (.inr rfl)]);clear HX;have r0:w3.cell? ⟨w.heap.size,0,none⟩=some (.int .i64 0):=HR.out.1.cell 0;have r1:w3.cell? ⟨w.heap.size,1,none⟩=some (.string ⟨#[]⟩):=HR.out.1.cell 1;have r2:w3.cell? ⟨w.heap.size,2,none⟩=some (.int .i64 0):=HR.out.1.cell 2;have f0:w3.frozen? ⟨w.heap.size,0,none⟩=false:=HR.out.1.frozen 0;have f1:w3.frozen? ⟨w.heap.size,1,none⟩=false:=HR.out.1.frozen 1;have f2:w3.frozen? ⟨w.heap.size,2,none⟩=false:=HR.out.1.frozen 2;go_wp2
  have HW9:Hid (Blk (((w3.setCell ⟨w.heap.size,0,none⟩ (.int .i64 0)).setCell ⟨w.heap.size,1,none⟩ (.string ⟨#[]⟩)).setCell ⟨w.heap.size,2,none⟩ (.int .i64 0)) w.heap.size 75 #[ζ,ε,ζ]∧Below w.heap.size w (((w3.setCell ⟨w.heap.size,0,none⟩ (.int .i64 0)).setCell ⟨w.heap.size,1,none⟩ (.string ⟨#[]⟩)).setCell ⟨w.heap.size,2,none⟩ (.int .i64 0))):=Lib.hid
   ⟨((HR.out.1.set_ 0 (.int .i64 0)).set_ 1 (.string ⟨#[]⟩)).set_ 2 (.int .i64 0),((HR.out.2.setCell (p:=⟨w.heap.size,0,none⟩) (Nat.le_refl _) _).setCell (p:=⟨w.heap.size,1,none⟩) (Nat.le_refl _) _).setCell (p:=⟨w.heap.size,2,none⟩) (Nat.le_refl _) _⟩
  generalize ((w3.setCell ⟨w.heap.size,0,none⟩ (.int .i64 0)).setCell ⟨w.heap.size,1,none⟩ (.string ⟨#[]⟩)).setCell ⟨w.heap.size,2,none⟩ (.int .i64 0)=W9 at HW9 ⊢;have s0:W9.cell? ⟨w.heap.size,0,none⟩=some (.int .i64 0):=HW9.out.1.cell 0;have s1:W9.cell? ⟨w.heap.size,1,none⟩=some (.string ⟨#[]⟩):=HW9.out.1.cell 1;have s2:W9.cell? ⟨w.heap.size,2,none⟩=some (.int .i64 0):=HW9.out.1.cell 2
  (try simp only [Exit.inBlock,Exit.then])
  refine bodyPost_ret (v:= .tuple #[.agg #[ζ,ε,ζ],false,ζ]) (by simp [results,Tryz.results31,go_sem,s0,s1,s2]) rfl ?_;exact HP.out _ _ _ _ HZ.out HW9.out.2
 |true=>
 go_wp2_with fail
 refine (HDc.out _).mono ?_;rintro e w4 ⟨rfl,hb4⟩;have HR4:Hid (Blk w4 w.heap.size 75 #[ζ,ε,ζ]∧Below w.heap.size w w4):=ι ⟨HR.out.1.below hb4 HR.out.1.lt,HR.out.2.nxt hb4⟩;clear hb4 HR;unfold rcV;simp only
 have f0:w4.frozen? ⟨w.heap.size,0,none⟩=false:=HR4.out.1.frozen 0;have f1:w4.frozen? ⟨w.heap.size,1,none⟩=false:=HR4.out.1.frozen 1;have f2:w4.frozen? ⟨w.heap.size,2,none⟩=false:=HR4.out.1.frozen 2;have r0:w4.cell? ⟨w.heap.size,0,none⟩=some (.int .i64 0):=HR4.out.1.cell 0;have r1:w4.cell? ⟨w.heap.size,1,none⟩=some (.string ⟨#[]⟩):=HR4.out.1.cell 1;have r2:w4.cell? ⟨w.heap.size,2,none⟩=some (.int .i64 0):=HR4.out.1.cell 2;go_upto_region 7 with fail
 have HR:Hid (Blk (((w4.setCell ⟨w.heap.size,0,none⟩ (.int .i64 (n:Int))).setCell ⟨w.heap.size,1,none⟩ (.string ⟨t.toArray⟩)).setCell ⟨w.heap.size,2,none⟩ (.int .i64 (q:Int))) w.heap.size 75 #[n,t,q]∧Below w.heap.size w (((w4.setCell ⟨w.heap.size,0,none⟩ (.int .i64 (n:Int))).setCell ⟨w.heap.size,1,none⟩ (.string ⟨t.toArray⟩)).setCell ⟨w.heap.size,2,none⟩ (.int .i64 (q:Int)))):=Lib.hid
  ⟨((HR4.out.1.set_ 0 (.int .i64 (n:Int))).set_ 1 (.string ⟨t.toArray⟩)).set_ 2 (.int .i64 (q:Int)),((HR4.out.2.setCell (p:=⟨w.heap.size,0,none⟩) (Nat.le_refl _) _).setCell (p:=⟨w.heap.size,1,none⟩) (Nat.le_refl _) _).setCell (p:=⟨w.heap.size,2,none⟩) (Nat.le_refl _) _⟩
 generalize ((w4.setCell ⟨w.heap.size,0,none⟩ (.int .i64 (n:Int))).setCell ⟨w.heap.size,1,none⟩ (.string ⟨t.toArray⟩)).setCell ⟨w.heap.size,2,none⟩ (.int .i64 (q:Int))=W7 at HR ⊢;clear f0 f1 f2 r0 r1 r2 HR4;by_cases hdc:dc=0;rotate_left
 ·have HZ:Hid (verifyF root (k:Int) nodes=((0,[],0),false,dc)):=ι (by rw [HX.out,if_neg (by simp),if_pos hdc]);have hc1:((dc:Int) !=0)=true:=by simp; exact hdc
  clear hdc HX;have r0:W7.cell? ⟨w.heap.size,0,none⟩=some (.int .i64 (n:Int)):=HR.out.1.cell 0;have r1:W7.cell? ⟨w.heap.size,1,none⟩=some (t:Value):=HR.out.1.cell 1;have r2:W7.cell? ⟨w.heap.size,2,none⟩=some (.int .i64 (q:Int)):=HR.out.1.cell 2;have f0:W7.frozen? ⟨w.heap.size,0,none⟩=false:=HR.out.1.frozen 0;have f1:W7.frozen? ⟨w.heap.size,1,none⟩=false:=HR.out.1.frozen 1;have f2:W7.frozen? ⟨w.heap.size,2,none⟩=false:=HR.out.1.frozen 2;go_wp2
  have HW9:Hid (Blk (((W7.setCell ⟨w.heap.size,0,none⟩ (.int .i64 0)).setCell ⟨w.heap.size,1,none⟩ (.string ⟨#[]⟩)).setCell ⟨w.heap.size,2,none⟩ (.int .i64 0)) w.heap.size 75 #[ζ,ε,ζ]∧Below w.heap.size w (((W7.setCell ⟨w.heap.size,0,none⟩ (.int .i64 0)).setCell ⟨w.heap.size,1,none⟩ (.string ⟨#[]⟩)).setCell ⟨w.heap.size,2,none⟩ (.int .i64 0))):=Lib.hid
   ⟨((HR.out.1.set_ 0 (.int .i64 0)).set_ 1 (.string ⟨#[]⟩)).set_ 2 (.int .i64 0),((HR.out.2.setCell (p:=⟨w.heap.size,0,none⟩) (Nat.le_refl _) _).setCell (p:=⟨w.heap.size,1,none⟩) (Nat.le_refl _) _).setCell (p:=⟨w.heap.size,2,none⟩) (Nat.le_refl _) _⟩
  generalize ((W7.setCell ⟨w.heap.size,0,none⟩ (.int .i64 0)).setCell ⟨w.heap.size,1,none⟩ (.string ⟨#[]⟩)).setCell ⟨w.heap.size,2,none⟩ (.int .i64 0)=W9 at HW9 ⊢;have s0:W9.cell? ⟨w.heap.size,0,none⟩=some (.int .i64 0):=HW9.out.1.cell 0;have s1:W9.cell? ⟨w.heap.size,1,none⟩=some (.string ⟨#[]⟩):=HW9.out.1.cell 1;have s2:W9.cell? ⟨w.heap.size,2,none⟩=some (.int .i64 0):=HW9.out.1.cell 2
  (try simp only [Exit.inBlock,Exit.then])
  refine bodyPost_ret (v:= .tuple #[.agg #[ζ,ε,ζ],false,dc]) (by simp [results,Tryz.results31,go_sem,s0,s1,s2]) rfl ?_;exact HP.out _ _ _ _ HZ.out HW9.out.2
 subst hdc;have HZ:Hid (verifyF root (k:Int) nodes=((n,t,q),true,0)):=ι (by rw [HX.out,if_neg (by simp),if_neg (by simp)]);clear HX;have r0:W7.cell? ⟨w.heap.size,0,none⟩=some (.int .i64 (n:Int)):=HR.out.1.cell 0;have r1:W7.cell? ⟨w.heap.size,1,none⟩=some (t:Value):=HR.out.1.cell 1;have r2:W7.cell? ⟨w.heap.size,2,none⟩=some (.int .i64 (q:Int)):=HR.out.1.cell 2;have f0:W7.frozen? ⟨w.heap.size,0,none⟩=false:=HR.out.1.frozen 0;have f1:W7.frozen? ⟨w.heap.size,1,none⟩=false:=HR.out.1.frozen 1;have f2:W7.frozen? ⟨w.heap.size,2,none⟩=false:=HR.out.1.frozen 2;go_wp2
 have HW9:Hid (Blk (((W7.setCell ⟨w.heap.size,0,none⟩ (.int .i64 (n:Int))).setCell ⟨w.heap.size,1,none⟩ (.string ⟨t.toArray⟩)).setCell ⟨w.heap.size,2,none⟩ (.int .i64 (q:Int))) w.heap.size 75 #[n,t,q]∧Below w.heap.size w (((W7.setCell ⟨w.heap.size,0,none⟩ (.int .i64 (n:Int))).setCell ⟨w.heap.size,1,none⟩ (.string ⟨t.toArray⟩)).setCell ⟨w.heap.size,2,none⟩ (.int .i64 (q:Int)))):=Lib.hid
  ⟨((HR.out.1.set_ 0 (.int .i64 (n:Int))).set_ 1 (.string ⟨t.toArray⟩)).set_ 2 (.int .i64 (q:Int)),((HR.out.2.setCell (p:=⟨w.heap.size,0,none⟩) (Nat.le_refl _) _).setCell (p:=⟨w.heap.size,1,none⟩) (Nat.le_refl _) _).setCell (p:=⟨w.heap.size,2,none⟩) (Nat.le_refl _) _⟩
 generalize ((W7.setCell ⟨w.heap.size,0,none⟩ (.int .i64 (n:Int))).setCell ⟨w.heap.size,1,none⟩ (.string ⟨t.toArray⟩)).setCell ⟨w.heap.size,2,none⟩ (.int .i64 (q:Int))=W9 at HW9 ⊢;have s0:W9.cell? ⟨w.heap.size,0,none⟩=some (.int .i64 (n:Int)):=HW9.out.1.cell 0;have s1:W9.cell? ⟨w.heap.size,1,none⟩=some (t:Value):=HW9.out.1.cell 1;have s2:W9.cell? ⟨w.heap.size,2,none⟩=some (.int .i64 (q:Int)):=HW9.out.1.cell 2
 (try simp only [Exit.inBlock,Exit.then])
 refine bodyPost_ret (v:= .tuple #[.agg #[n,t,q],true,ζ]) (by simp [results,Tryz.results31,go_sem,s0,s1,s2]) rfl ?_;exact HP.out _ _ _ _ HZ.out HW9.out.2
end
structure En where
 hd:Hd
 sum:List UInt8
 txs:List Ex.Tx
 rcs:List Ex.Rc
 st:Trie.T
 set:List Pw.Mem
 nxt:List Pw.Mem
namespace Led
open Trie Pw
def rootR (l:List Ex.Rc):List UInt8:=if (treeF l).2=0 then sumT (treeF l).1 else []
def newH (t:T) (set:List Mem):Hd:=⟨0,0,0,true,[],sumT t,[],Ex.rootX [],digM set,digM set,[]⟩
def newE (t:T) (set:List Mem):En:=⟨newH t set,Hd.dig (newH t set),[],[],t,set,set⟩
def sumAt (l:List En) (i:Nat):List UInt8:=((l[i]?).map (·.sum)).getD []
def makeC (p:En) (view:Int) (txs:List Ex.Tx):Nat:=
 if view<1∨1048576<view∨1048576≤p.hd.hgt then 1 else if p.hd.last=false∧view≤p.hd.vw then 230 else (Ex.allL p.st txs).2
def nextH (l:List En) (p:En) (view:Int) (txs:List Ex.Tx) (t:T) (R:List Ex.Rc) (M:List Mem):Hd:=
 ⟨p.hd.hgt+1,if p.hd.last then p.hd.epo+1 else p.hd.epo,view, !M.isEmpty,p.sum,sumT t,rootR R,Ex.rootX txs,p.hd.nxt,if M.isEmpty then p.hd.nxt else digM M,(Hd.linksH (p.hd.hgt+1)).map (sumAt l)⟩
def nextE (l:List En) (p:En) (view:Int) (txs:List Ex.Tx) (t:T) (R:List Ex.Rc) (M:List Mem):En:=
 ⟨nextH l p view txs t R M,Hd.dig (nextH l p view txs t R M),txs,R,t,p.nxt,if M.isEmpty then p.nxt else M⟩
def makeE (l:List En) (p:En) (view:Int) (txs:List Ex.Tx):En:=nextE l p view txs (Ex.allL p.st txs).1.1 (Ex.allL p.st txs).1.2.1 (Ex.allL p.st txs).1.2.2
structure One (e:En) (i:Nat):Prop where
 hgt:e.hd.hgt=i
 ok:Hd.Ok e.hd
 sum:e.sum=Hd.dig e.hd
 good:Trie.Good e.st
 cnt:count e.st≤1024
 set:okM e.set=true
 nxt:okM e.nxt=true
 dset:digM e.set=e.hd.mem
 dnxt:digM e.nxt=e.hd.nxt
 epo:e.hd.epo≤i
theorem One.sum_len {e:En} {i:Nat} (h:One e i):e.sum.length=32:=by rw [h.sum]; exact Hd.dig_len ((Hd.ok_iff _).2 h.ok)
structure Two (p e:En):Prop where
 par:e.hd.par=p.sum
 set:e.set=p.nxt
 mem:e.hd.mem=p.hd.nxt
 epo:e.hd.epo=if p.hd.last then p.hd.epo+1 else p.hd.epo
 vw:p.hd.last=false→p.hd.vw<e.hd.vw
 nxt:e.hd.last=false→e.nxt=p.nxt∧e.hd.nxt=p.hd.nxt
structure Wf (l:List En):Prop where
 pos:0<l.length
 one:∀ i (hi:i<l.length),One l[i] i
 two:∀ i (hi:i+1<l.length),Two l[i] l[i+1]
 sk:∀ i (hi:i<l.length),l[i].hd.sk=(Hd.linksH i).map (sumAt l)
theorem Wf.le {l:List En} (h:Wf l):l.length≤1048577:=by
 have hp:=h.pos;have h1:=h.one (l.length - 1) (by omega);have h2:=h1.ok.h1;have h3:=h1.hgt;omega
theorem sumT_maybe (t:T):sumT t= []∨(sumT t).length=32:=by
 by_cases h:t= .nil
 ·subst h; exact .inl rfl
 ·exact .inr (sumT_len h)
theorem rootR_maybe (l:List Ex.Rc):rootR l= []∨(rootR l).length=32:=by
 unfold rootR
 split
 ·exact sumT_maybe _
 ·exact .inl rfl
theorem newE_one {t : T} {set : List Mem} (hg : Trie.Good t) (hc : count t ≤ 1024) (hs : okM set = true) : One (newE t set) 0 :=
  { hgt := rfl, sum := rfl, good := hg, cnt := hc, set := hs, nxt := hs, dset := rfl, dnxt := rfl, epo := by simp [newE, newH],
    ok := { h0 := by simp [newE, newH], h1 := by simp [newE, newH], e0 := by simp [newE, newH], e1 := by simp [newE, newH], v0 := by simp [newE, newH], v1 := by simp [newE, newH],
            par := ⟨fun h => by simp [newE, newH] at h, fun _ => ⟨rfl, rfl, rfl, rfl⟩⟩, sk := rfl, skl := fun s hs => by simp [newE, newH] at hs,
            tx := (Ex.rootX_len []), mem := (digM_len (l := set) hs), nxt := (digM_len (l := set) hs), st := (sumT_maybe t), rc := .inl rfl, on := fun h => by simp [newE, newH] at h } }
theorem newE_wf {t:T} {set:List Mem} (hg:Trie.Good t) (hc:count t≤1024) (hs:okM set=true):Wf [newE t set] where
 pos:=by simp
 one:=fun i hi=>by
  have:i=0:=by simpa using hi
  subst this;exact newE_one hg hc hs
 two:=fun i hi=>by simp at hi
 sk:=fun i hi=>by
  have:i=0:=by simpa using hi
  subst this;rfl
theorem sumAt_app {l:List En} {x:En} {i:Nat} (h:i<l.length):sumAt (l++ [x]) i=sumAt l i:=by
 unfold sumAt;rw [List.getElem?_append_left h]
theorem sumAt_of {l:List En} {i:Nat} (h:i<l.length):sumAt l i=l[i].sum:=by
 unfold sumAt;rw [List.getElem?_eq_getElem h];rfl
theorem linksH_lt {h:Nat}:∀ x∈Hd.linksH h,x<h:=by
 intro x hx;unfold Hd.linksH at hx
 split at hx
 ·rename_i hc;obtain ⟨i,hi,rfl⟩:=List.mem_iff_getElem.1 hx;obtain ⟨h1,h2⟩:=Skip.links_get _ _ hi;rw [h2]
  have:=Nat.two_pow_pos (i+1)
  simp only [Int.toNat_natCast];omega
 ·simp at hx
theorem map_sumAt_app {l:List En} {x:En} {h:Nat} (hh:h≤l.length):(Hd.linksH h).map (sumAt (l++ [x]))=(Hd.linksH h).map (sumAt l):=
 List.map_congr_left fun i hi=>sumAt_app (by have:=linksH_lt i hi; omega)
theorem isEmpty_false {α:Type} {l:List α} (h:l≠ []):l.isEmpty=false:=by cases l<;>simp_all
theorem nextE_one {l:List En} (h:Wf l) {p:En} {n:Nat} (hn:l.length=n+1) (hp:l[n]'(by omega)=p) {view:Int} {txs:List Ex.Tx} {t:T} {R:List Ex.Rc} {M:List Mem} (hc:makeC p view txs=0)
  (hg:Trie.Good t) (hct:count t≤1024) (hM:M= []∨okM M=true):One (nextE l p view txs t R M) (n+1)∧Two p (nextE l p view txs t R M):=by
 have o:=h.one n (by omega);rw [hp] at o;unfold makeC at hc
 split at hc
 ·cases hc
 rename_i hv
 split at hc
 ·cases hc
 rename_i hw;have e1:=o.epo;have e2:=o.ok.e0;have e3:=o.hgt;have hdn:=o.dnxt;have hlen:(digM p.nxt).length=32:=digM_len o.nxt;have hsk:∀ s∈(Hd.linksH (p.hd.hgt+1)).map (sumAt l),s.length=32:=by
  intro s hs;obtain ⟨i,hi,rfl⟩:=List.mem_map.1 hs;have e4:p.hd.hgt+1=((n+1:Nat):Int):=by omega
  rw [e4] at hi
  have:=linksH_lt i hi
  rw [sumAt_of (by omega)];exact (h.one i (by omega)).sum_len
 have hepo:(0:Int)≤(if p.hd.last then p.hd.epo+1 else p.hd.epo)∧(if p.hd.last then p.hd.epo+1 else p.hd.epo)≤((n+1:Nat):Int):=by
  split<;>omega
 have hNx:okM (if M.isEmpty then p.nxt else M)=true∧digM (if M.isEmpty then p.nxt else M)=(if M.isEmpty then p.hd.nxt else digM M):=by
  rcases hM with rfl|hM
  ·exact ⟨o.nxt,o.dnxt⟩
  ·have:M≠ []:=by intro e; subst e; have:=okM_len hM; simp at this
   rw [isEmpty_false this];exact ⟨hM,rfl⟩
 have htx:=Ex.rootX_len txs;have hst:=sumT_maybe t;have hrc:=rootR_maybe R;have hsl:=o.sum_len;have hnl:(if M.isEmpty then p.hd.nxt else digM M).length=32:=by rw [←hNx.2]; exact digM_len hNx.1
 have hml:p.hd.nxt.length=32:=by rw [←hdn]; exact hlen
 have hne:(!M.isEmpty)=false→(if M.isEmpty then p.hd.nxt else digM M)=p.hd.nxt:=fun e=>by
  rw [Bool.not_eq_false'] at e;rw [e]; rfl
 have hnp:(!M.isEmpty)=false→(if M.isEmpty then p.nxt else M)=p.nxt:=fun e=>by
  rw [Bool.not_eq_false'] at e;rw [e]; rfl
 unfold nextE nextH;generalize Ex.rootX txs=a at *;generalize sumT t=b at *;generalize rootR R=c at *;generalize (if M.isEmpty then p.hd.nxt else digM M)=d at *;generalize (if M.isEmpty then p.nxt else M)=m at *;generalize (!M.isEmpty)=f at *;generalize hep:(if p.hd.last then p.hd.epo+1 else p.hd.epo)=ep at *;generalize hlk:(Hd.linksH (p.hd.hgt+1)).map (sumAt l)=sk at *;have hskl:sk.length=(Hd.linksH (p.hd.hgt+1)).length:=by rw [←hlk,List.length_map]
 constructor
 ·exact {hgt:=(by simp only; omega),sum:=rfl,good:=hg,cnt:=hct,set:=o.nxt,nxt:=hNx.1,dset:=o.dnxt,dnxt:=hNx.2,epo:=hepo.2,ok:={h0:=(by simp only; omega),h1:=(by simp only; omega),e0:=hepo.1,e1:=(by have:=hepo.2; simp only; omega),v0:=(by simp only; omega),v1:=(by simp only; omega),par:=⟨fun _=>hsl,fun e=>(by simp only at e; omega)⟩,sk:=hskl,skl:=hsk,tx:=htx,mem:=hml,nxt:=hnl,st:=hst,rc:=hrc,on:=hne}}
 ·exact {par:=rfl,set:=rfl,mem:=rfl,epo:=hep.symm,vw:=fun e=>Int.not_le.1 (fun h2=>hw ⟨e,h2⟩),nxt:=fun e=>⟨hnp e,hne e⟩}
theorem Wf.snoc {l:List En} (h:Wf l) {x:En} {n:Nat} (hn:l.length=n+1) (h1:One x (n+1)) (h2:Two (l[n]'(by omega)) x) (h3:x.hd.sk=(Hd.linksH ((n+1:Nat):Int)).map (sumAt l)):Wf (l++ [x]) where
 pos:=by simp
 one:=fun i hi=>by
  by_cases hl:i<l.length
  ·rw [List.getElem_append_left hl]; exact h.one i hl
  ·have:i=n+1:=by simp at hi; omega
   subst this;rw [List.getElem_append_right (by omega)];simp only [hn,Nat.sub_self,List.getElem_cons_zero];exact h1
 two:=fun i hi=>by
  by_cases hl:i+1<l.length
  ·rw [List.getElem_append_left hl,List.getElem_append_left (by omega)]; exact h.two i hl
  ·have:i=n:=by simp at hi; omega
   subst this;rw [List.getElem_append_left (by omega),List.getElem_append_right (by omega)];simp only [hn,Nat.sub_self,List.getElem_cons_zero];exact h2
 sk:=fun i hi=>by
  by_cases hl:i<l.length
  ·rw [List.getElem_append_left hl,h.sk i hl,map_sumAt_app (by omega)]
  ·have:i=n+1:=by simp at hi; omega
   subst this;rw [List.getElem_append_right (by omega),map_sumAt_app (by omega)];simp only [hn,Nat.sub_self,List.getElem_cons_zero];exact h3
def addW (l:List En) (view:Int) (txs:List Ex.Tx):List En × Nat:=
 match l.getLast? with
 |none=>(l,1)
 |some p=>if makeC p view txs=0 then (l++ [makeE l p view txs],0) else (l,makeC p view txs)
theorem last_of {l:List En} {n:Nat} (hn:l.length=n+1):l.getLast?=some (l[n]'(by omega)):=by
 rw [List.getLast?_eq_getElem?,show l.length - 1=n by omega];exact List.getElem?_eq_getElem _
theorem makeC_all {p:En} {view:Int} {txs:List Ex.Tx} (hc:makeC p view txs=0):(Ex.allL p.st txs).2=0:=by
 unfold makeC at hc
 split at hc
 ·cases hc
 split at hc
 ·cases hc
 exact hc
theorem addW_wf {l:List En} (h:Wf l) (view:Int) (txs:List Ex.Tx):Wf (addW l view txs).1:=by
 obtain ⟨n,hn⟩:∃ n,l.length=n+1:=⟨l.length - 1,by have:=h.pos; omega⟩
 unfold addW;rw [last_of hn];simp only
 split
 ·rename_i hc;have o:=h.one n (by omega);obtain ⟨a1,a2,a3⟩:=Ex.allL_ok (makeC_all hc);have hg:=Ex.allGoL_good txs _ [] o.good o.cnt;have hM:=Ex.allGoL_next txs l[n].st [] a2 (.inl rfl);unfold makeE;rw [a3];obtain ⟨q1,q2⟩:=nextE_one h hn rfl (R:=(Ex.allGoL l[n].st txs []).2.1) hc hg.1 hg.2.1 hM;refine h.snoc hn q1 q2 ?_;simp only [nextE,nextH];rw [o.hgt];rfl
 ·exact h
def growW (l:List En):List (Int × List Ex.Tx)→List En
 | []=>l
 |b::r=>growW (addW l b.1 b.2).1 r
theorem growW_snoc:∀ (r:List (Int × List Ex.Tx)) (l:List En) (b:Int × List Ex.Tx),growW l (r++ [b])=(addW (growW l r) b.1 b.2).1
 | [],l,b=>rfl
 |c::r,l,b=>by rw [List.cons_append,growW,growW_snoc r]; rfl
end Led
section
open Go.RowKit Go.Instr
attribute [local go_sem] ba_get ByteArray.mk_append_mk
theorem nameW_eq (s:List UInt8):Ex.nameW s=(!s.isEmpty && decide (s.length≤6)):=by
 unfold Ex.nameW;cases s<;>simp
theorem exec_name (s:List UInt8) (hl:s.length≤9223372036854775807) (w:World):
  Calls Tryz.prog 78 #[s] w fun e w'=>e= .returned (.bool (Ex.nameW s))∧w=w':=by
 have HP:Hid (∀ b w',Ex.nameW s=b→w=w'→(fun e w'=>e=Ending.returned (.bool (Ex.nameW s))∧w=w') (Ending.returned (.bool b)) w'):=ι (fun b w' h1 h2=>⟨by rw [h1],h2⟩);generalize (fun e w'=>e=Ending.returned (.bool (Ex.nameW s))∧w=w')=P at HP ⊢;by_cases h0:s= []
 ·subst h0;go_enter Tryz.func78,Tryz.ntmps78
  go_wp2
  exact HP.out _ _ rfl rfl
 ·have ne1:(s.toArray=#[])=False:=by simp [h0]
  have ne2:s.isEmpty=false:=by cases s<;>simp_all
  by_cases h8:s.length≤6
  ·have h8':(s.length:Int)≤6:=by omega
   go_enter Tryz.func78,Tryz.ntmps78
   go_wp2
   exact HP.out _ _ (by simp [nameW_eq,ne2,h8]) rfl
  ·have h8':((s.length:Int)≤6)=False:=by simp; omega
   go_enter Tryz.func78,Tryz.ntmps78
   go_wp2
   exact HP.out _ _ (by simp [nameW_eq,ne2,h8]) rfl
theorem tx_name (s:List UInt8) (hl:s.length≤9223372036854775807) (w:World):
  Calls Tryz.prog 189 #[s] w fun e w'=>e= .returned (.bool (Ex.nameW s))∧w=w':=by
 have HP:Hid (∀ b w',Ex.nameW s=b→w=w'→(fun e w'=>e=Ending.returned (.bool (Ex.nameW s))∧w=w') (Ending.returned (.bool b)) w'):=ι (fun b w' h1 h2=>⟨by rw [h1],h2⟩);generalize (fun e w'=>e=Ending.returned (.bool (Ex.nameW s))∧w=w')=P at HP ⊢;by_cases h0:s= []
 ·subst h0;go_enter Tryz.func189,Tryz.ntmps189
  go_wp2
  exact HP.out _ _ rfl rfl
 ·have ne1:(s.toArray=#[])=False:=by simp [h0]
  have ne2:s.isEmpty=false:=by cases s<;>simp_all
  by_cases h8:s.length≤6
  ·have h8':(s.length:Int)≤6:=by omega
   go_enter Tryz.func189,Tryz.ntmps189
   go_wp2
   exact HP.out _ _ (by simp [nameW_eq,ne2,h8]) rfl
  ·have h8':((s.length:Int)≤6)=False:=by simp; omega
   go_enter Tryz.func189,Tryz.ntmps189
   go_wp2
   exact HP.out _ _ (by simp [nameW_eq,ne2,h8]) rfl
theorem exec_within (n:Int) (w:World):
  Calls Tryz.prog 82 #[n] w fun e w'=>e= .returned (.bool (decide (0≤n) && decide (n≤1099511627776)))∧w=w':=by
 have HP:Hid (∀ b w',(decide (0≤n) && decide (n≤1099511627776))=b→w=w'→(fun e w'=>e=Ending.returned (.bool (decide (0≤n) && decide (n≤1099511627776)))∧w=w') (Ending.returned (.bool b)) w'):=ι (fun b w' h1 h2=>⟨by rw [h1],h2⟩);generalize (fun e w'=>e=Ending.returned (.bool (decide (0≤n) && decide (n≤1099511627776)))∧w=w')=P at HP ⊢;by_cases h0:0≤n
 ·have h0':(0≤n)=True:=by simp [h0]
  by_cases h8:n≤1099511627776
  ·have h8':(n≤1099511627776)=True:=by simp [h8]
   go_enter Tryz.func82,Tryz.ntmps82
   go_wp2
   exact HP.out _ _ (by simp [h0,h8]) rfl
  ·have h8':(n≤1099511627776)=False:=by simp; omega
   go_enter Tryz.func82,Tryz.ntmps82
   go_wp2
   exact HP.out _ _ (by simp [h0]; omega) rfl
 ·have h0':(0≤n)=False:=by simp; omega
  go_enter Tryz.func82,Tryz.ntmps82
  go_wp2
  exact HP.out _ _ (by simp; omega) rfl
theorem exec_written (n:List UInt8) (a q:Nat) (ha:a≤4000000000000) (hq:q≤4000000000000) (w:World):
  Calls Tryz.prog 153 #[.agg #[n,a,q]] w (Ret w (.string ⟨(Ex.writA (a,q)).toArray⟩)):=by
 have HP:Hid (∀ w',Below w.heap.size w w'→Ret w (.string ⟨(Ex.writA (a,q)).toArray⟩) (.returned (.string ⟨(numW a++numW q).toArray⟩)) w'):=ι (fun w' h=>⟨rfl,h⟩);generalize Ret w (.string ⟨(Ex.writA (a,q)).toArray⟩)=P at HP ⊢;have HA:=ι (fun W=>code_Num a (by omega) W);have HQ:=ι (fun W=>code_Num q (by omega) W);have l1:=numW_len a (by omega);have l2:=numW_len q (by omega);have HLn:=ι (And.intro l1 l2);clear ha hq l1 l2;go_enter Tryz.func153,Tryz.ntmps153
 go_upto_region 1 with fail
 have F0:=Live.ha (ι (Live.start w)) #[n,a,q] 62;generalize World.alloc w _=W0 at F0 ⊢;generalize w.heap.size=ab at F0 ⊢;have k0:=(F0.out.blk 0 rfl).c3;go_wp2_with fail
 refine (HA.out _).mono ?_;rintro e w1 ⟨rfl,hb⟩;have F1:=Live.hb F0 hb;clear hb F0 k0 HA;have k0:=(F1.out.blk 0 rfl).c3;go_wp2_with fail
 refine (HQ.out _).mono ?_;rintro e w2 ⟨rfl,hb⟩;have F2:=Live.hb F1 hb;clear hb F1 k0 HQ;obtain ⟨l1,l2⟩:=HLn.out;generalize numW a=X at *;generalize numW q=Y at *;have m1:X.length+Y.length≤9223372036854775807:=by omega
 clear l1 l2;go_wp2
 exact HP.out _ F2.out.b
end
end Go.Proofs.YtnelhjfjkkdoaaaGreatDoor