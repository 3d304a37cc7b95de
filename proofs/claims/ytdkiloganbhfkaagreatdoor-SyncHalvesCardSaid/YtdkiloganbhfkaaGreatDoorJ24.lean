import Derived.Test.YtdkiloganbhfkaaGreatDoorJ23
import Derived.Great.BuildSlice
import Derived.Test.YtdkiloganbhfkaaGreatDoorJ15
set_option linter.unusedSimpArgs false
set_option linter.unusedVariables false
set_option maxHeartbeats 4000000
set_option maxRecDepth 100000
namespace Go.Proofs.YtdkiloganbhfkaaGreatDoor
section
open Go.RowKit Go.Instr
attribute [local go_sem] ba_get ByteArray.mk_append_mk
def spv (D:List (List UInt8 × Trie.T)):List Value:=
 D.flatMap fun x=> .string ⟨x.1.toArray⟩:: .string ⟨(Trie.textT x.2).toArray⟩:: .string ⟨(Trie.sumT x.2).toArray⟩::nodeV (Trie.kindT x.2) (Trie.pathT x.2) (Trie.valT x.2) (Trie.sumsT x.2)
theorem spv_length:∀ D:List (List UInt8 × Trie.T),(spv D).length=D.length*22
 | []=>rfl
 |x::D=>by
  have:=spv_length D
  have h2:=nodeV_size (k:=Trie.kindT x.2) (p:=Trie.pathT x.2) (v:=Trie.valT x.2) (Trie.sumsT_length x.2);unfold spv at *;rw [List.flatMap_cons,List.length_append,this];simp only [List.length_cons,h2];omega
theorem spv_one (D:List (List UInt8 × Trie.T)):∀ u∈spv D,u.oneCell'=true:=by
 intro u hu;unfold spv at hu;rw [List.mem_flatMap] at hu;obtain ⟨x,_,hu⟩:=hu;simp only [nodeV,List.mem_cons] at hu;rcases hu with rfl|rfl|rfl|rfl|rfl|rfl|hu
 ·rfl
 ·rfl
 ·rfl
 ·rfl
 ·rfl
 ·rfl
 ·exact strv_one _ _ hu
def SpotsEnd (w:World) (D:List (List UInt8 × Trie.T)) (e:Ending) (w':World):Prop:=
 ∃ A c n,e= .returned (.slice A n c)∧n=D.length∧w'.ownsRow w.heap.size 179 22 (.slice A n c) n (spv D)∧Below w.heap.size w w'
theorem info_spot:(Tryz.prog.info? 179).map (fun i=>(i.zero,i.size,i.bytes))=some (some (.agg #[ε,ε,ε,ζ,ε,ε,ε,ε,ε,ε,ε,ε,ε,ε,ε,ε,ε,ε,ε,ε,ε,ε]),22,344):=by kernel_rfl
theorem built_spot0 (a b c:ByteArray) (n0 n1 n2 n3 n4 n5 n6 n7 n8 n9 n10 n11 n12 n13 n14 n15 n16 n17 n18:Value):Tryz.prog.built 179 [(0,.string a),(1,.string b),(2,.string c),(3,.agg #[n0,n1,n2,n3,n4,n5,n6,n7,n8,n9,n10,n11,n12,n13,n14,n15,n16,n17,n18])]=some #[.string a,.string b,.string c,n0,n1,n2,n3,n4,n5,n6,n7,n8,n9,n10,n11,n12,n13,n14,n15,n16,n17,n18]:=by kernel_rfl
theorem built_spot (a b c:ByteArray) (NV:List Value) (h:NV.length=19):Tryz.prog.built 179 [(0,.string a),(1,.string b),(2,.string c),(3,.agg NV.toArray)]=some (.string a:: .string b:: .string c::NV).toArray:=by
 match NV,h with
 | [n0,n1,n2,n3,n4,n5,n6,n7,n8,n9,n10,n11,n12,n13,n14,n15,n16,n17,n18],_=>exact built_spot0 a b c n0 n1 n2 n3 n4 n5 n6 n7 n8 n9 n10 n11 n12 n13 n14 n15 n16 n17 n18
theorem yieldsIf_build {P:Program} {ops:Array Oper} {S:World→Prop} {op:Oper} {a:Act} (hw:Region.wanted op (yielded ops a.tmps)=true) (t:TypeId) (parts:Array (Nat × Operand)) (ho:op.op= .build t parts)
  (cells:Array Value) (hb:P.built t (parts.map fun (i,x)=>(i,a.eval x)).toList=some cells):YieldsIf P ops S op (.agg cells) a:=
 .inl ⟨hw,fun w _=>by unfold execOp; simp only [ho,Sem.run_bind,run_build w t _ cells hb,Result.andThen_ok]; rfl⟩
theorem list22 {α:Type}:∀ l:List α,l.length=22→∃ m0 m1 m2 m3 m4 m5 m6 m7 m8 m9 m10 m11 m12 m13 m14 m15 m16 m17 m18 m19 m20 m21,l= [m0,m1,m2,m3,m4,m5,m6,m7,m8,m9,m10,m11,m12,m13,m14,m15,m16,m17,m18,m19,m20,m21]
 | [m0,m1,m2,m3,m4,m5,m6,m7,m8,m9,m10,m11,m12,m13,m14,m15,m16,m17,m18,m19,m20,m21],_=>⟨m0,m1,m2,m3,m4,m5,m6,m7,m8,m9,m10,m11,m12,m13,m14,m15,m16,m17,m18,m19,m20,m21,rfl⟩
theorem step_spot {ops:Array Oper} {o:Oper} {a:Act} {w:World} {K:Act→World→Prop} {Q:Exit→Act→World→Prop} {E:Prop} (x:Operand) (C:List Value) (hC:C.length=22) (hgd:o.guard=none) (ho:o.op= .buildSlice 173 1 #[(0,x)]) (hx:a.eval x= .agg C.toArray)
  (h:K (a.put o.dst (.slice (some ⟨w.heap.size,0,none⟩) 1 1)) (w.alloc (.cells C.toArray 179))):
  if Region.wanted o (yielded ops a.tmps)=true then Oper.wp Tryz.prog o a w K Q else E:=by
 have hw:Region.wanted o (yielded ops a.tmps)=true:=by simp [Region.wanted,hgd]
 rw [if_pos hw];obtain ⟨i,hi,hz,hsize,hby⟩:=info_parts info_spot;refine wp_buildSlice 173 179 1 #[(0,x)] ho C.toArray i _ Tryz.underlying173 hi hz (by rw [hsize]; decide) (by rw [hsize]; decide) ?_ h;rw [hsize];obtain ⟨m0,m1,m2,m3,m4,m5,m6,m7,m8,m9,m10,m11,m12,m13,m14,m15,m16,m17,m18,m19,m20,m21,rfl⟩:=list22 C hC;simp only [List.map_toArray,List.map_cons,List.map_nil,hx]
 kernel_rfl
theorem Live.range1 {w W:World} {L:List (Nat × Nat × Array Value)} {t:Nat} {cs:List Value} (h:Live w W L) (g:Nat) (i:Nat) (hi:L[i]?=some (g,t,cs.toArray)):W.rangeAt g 0 cs:=fun j u hu=>by
 rw [Nat.zero_add]; exact h.cell i j hi (by simpa using hu)
theorem ref10_spot (w:World) (pl:List UInt8) (t:Trie.T) (hn:t≠ .nil) (hw:Trie.wf t) (hs:Trie.small t) (D:List (List UInt8 × Trie.T)) (hD:D.length≤100000) (A:Option Addr) (c:Nat) (HR:Reads w w.heap.size 22 A D.length (spv D)):
  Calls Tryz.prog 179 #[pl,.agg (nodeV (Trie.kindT t) (Trie.pathT t) (Trie.valT t) (Trie.sumsT t)).toArray,.slice A D.length c] w (SpotsEnd w ((pl,t)::D)):=by
 have HP:Hid (∀ A c n w',n=D.length+1→w'.ownsRow w.heap.size 179 22 (.slice A n c) n (spv ((pl,t)::D))→Below w.heap.size w w'→SpotsEnd w ((pl,t)::D) (.returned (.slice A n c)) w'):=ι (fun A c n w' g1 g2 g3=>⟨A,c,n,rfl,g1,g2,g3⟩);generalize SpotsEnd w ((pl,t)::D)=P at HP ⊢;have hf:=Trie.fineT hn hw hs;have HS:Hid (spv ((pl,t)::D)=(.string ⟨pl.toArray⟩:: .string ⟨(Trie.textT t).toArray⟩:: .string ⟨(Trie.sumT t).toArray⟩::nodeV (Trie.kindT t) (Trie.pathT t) (Trie.valT t) (Trie.sumsT t))++spv D):=ι rfl;have HWr:Hid (∀ W,Calls Tryz.prog 190 #[.agg (nodeV (Trie.kindT t) (Trie.pathT t) (Trie.valT t) (Trie.sumsT t)).toArray] W (Ret W (.string ⟨(Trie.textT t).toArray⟩))):=ι (fun W=>ref08_Written W _ _ _ _ (Trie.sumsT_length t) hf);have HDg:Hid (∀ W,Calls Tryz.prog 191 #[.agg (nodeV (Trie.kindT t) (Trie.pathT t) (Trie.valT t) (Trie.sumsT t)).toArray] W (Ret W (.string ⟨(Trie.sumT t).toArray⟩))):=ι (fun W=>by rw [Trie.sumT_eq hn]; exact ref08_Digest W _ _ _ _ (Trie.sumsT_length t) hf);have hone:=spv_one ((pl,t)::D);rw [HS.out] at hone;have Hone:=ι (fun u (hu:u∈(.string ⟨pl.toArray⟩:: .string ⟨(Trie.textT t).toArray⟩:: .string ⟨(Trie.sumT t).toArray⟩::nodeV (Trie.kindT t) (Trie.pathT t) (Trie.valT t) (Trie.sumsT t)))=>hone u (List.mem_append_left _ hu));have HoneD:=ι (spv_one D);have Hsz:=ι (nodeV_size (k:=Trie.kindT t) (p:=Trie.pathT t) (v:=Trie.valT t) (Trie.sumsT_length t));clear hf hone;generalize Trie.textT t=T at *;generalize Trie.sumT t=S at *;generalize hNV:nodeV (Trie.kindT t) (Trie.pathT t) (Trie.valT t) (Trie.sumsT t)=NV at *;clear hNV hw hs;have HRd:=ι HR;have HDl:=ι hD;clear HR hD;go_enter Tryz.func179,Tryz.ntmps179
 go_upto_region 2 with fail
 have SZ:(Tryz.prog.info? 177).map (·.size)=some NV.length:=by rw [Hsz.out]; exact info_node
 have F:=Live.ha (ι (Live.start w)) NV.toArray 177;generalize w.alloc (.cells NV.toArray 177)=W0 at F ⊢;have RA:W0.rangeAt w.heap.size 0 NV:=fun j u hu=>by rw [Nat.zero_add]; exact F.out.cell 0 j rfl (by simpa using hu)
 have UN:=Tryz.underlying177;refine wp_region_held_drew (S:=fun w'=>w'.rangeAt w.heap.size 0 NV) (by kernel_rfl) RA (fun hHeld=> ?_);refine tk 0 8 rfl ?_;try go_frame
 refine tk 1 9 rfl ?_;try go_frame
 refine' wpAnyH_take (i:=2) (oi:=⟨some 10,_,_,_,_,_⟩) (v:=_) rfl (by kernel_rfl) (by kernel_rfl) (by kernel_rfl) (fun _ _ _ h=>h) (yieldsIf_load_mid (by rfl) _ _ rfl w.heap.size 0 rfl NV _ (fun w h=>h) UN rfl SZ) (by assumption) ?_
 try go_frame
 refine' wpAnyH_take (i:=4) (oi:=⟨some 12,_,_,_,_,_⟩) (v:=_) rfl (by kernel_rfl) (by kernel_rfl) (by kernel_rfl) (fun _ _ _ h=>h) (yieldsIf_load_mid (by rfl) _ _ rfl w.heap.size 0 rfl NV _ (fun w h=>h) UN rfl SZ) (by assumption) ?_
 try go_frame
 refine' wpAnyH_take (i:=6) (oi:=⟨some 14,_,_,_,_,_⟩) (v:=_) rfl (by kernel_rfl) (by kernel_rfl) (by kernel_rfl) (fun _ _ _ h=>h) (yieldsIf_load_mid (by rfl) _ _ rfl w.heap.size 0 rfl NV _ (fun w h=>h) UN rfl SZ) (by assumption) ?_
 try go_frame
 refine rd1 3 rfl (fun K hK=> ?_);go_simp
 refine (HWr.out _).mono ?_;rintro e W9 ⟨rfl,hb⟩
 (first|have F:=Live.hb F hb|have F:=Live.hbd F hb); clear hb
 have RA:W9.rangeAt w.heap.size 0 NV:=fun j u hu=>by rw [Nat.zero_add]; exact F.out.cell 0 j rfl (by simpa using hu)
 go_simp
 refine hK.out _ _ RA (fun hHeld=> ?_);clear hK K;refine rd1 5 rfl (fun K hK=> ?_);go_simp
 refine (HDg.out _).mono ?_;rintro e W9 ⟨rfl,hb⟩
 (first|have F:=Live.hb F hb|have F:=Live.hbd F hb); clear hb
 have RA:W9.rangeAt w.heap.size 0 NV:=fun j u hu=>by rw [Nat.zero_add]; exact F.out.cell 0 j rfl (by simpa using hu)
 go_simp
 refine hK.out _ _ RA (fun hHeld=> ?_);clear hK K;have HBt:=built_spot ⟨pl.toArray⟩ ⟨T.toArray⟩ ⟨S.toArray⟩ NV Hsz.out;refine wpAnyH_take (i:=7) (oi:=⟨some 15,_,_,_,_,_⟩) (v:= .agg (.string ⟨pl.toArray⟩:: .string ⟨T.toArray⟩:: .string ⟨S.toArray⟩::NV).toArray) rfl (by kernel_rfl) (by kernel_rfl) (by kernel_rfl) (fun _ _ _ h=>h) (yieldsIf_build (by rfl) _ _ rfl _ (by simp only [List.map_toArray,List.map_cons,List.map_nil]; exact HBt)) (by assumption) ?_;try go_frame
 refine rd1 8 rfl (fun K hK=> ?_);refine step_spot _ (.string ⟨pl.toArray⟩:: .string ⟨T.toArray⟩:: .string ⟨S.toArray⟩::NV) (by simp [Hsz.out]) rfl rfl rfl ?_;refine hK.out _ _ ?_ (fun hHeld=> ?_)
 ·exact (F.out.alloc _ _).range1 w.heap.size 1 rfl
 clear hK K RA;have hcl:(.string ⟨pl.toArray⟩:: .string ⟨T.toArray⟩:: .string ⟨S.toArray⟩::NV).length=1*22:=by simp [Hsz.out]
 obtain ⟨i0,hi0,hz0,hz1,hz2⟩:=info_parts info_spot;refine rd1 9 rfl (fun K hK=> ?_);refine step_append_row W9 179 (.string ⟨pl.toArray⟩:: .string ⟨T.toArray⟩:: .string ⟨S.toArray⟩::NV) rfl _ _ 173 rfl w.heap.size 22 344 _ info_spot Tryz.underlying173 rfl (by decide) (.slice none 0 0) 0 [] rfl (World.ownsRow_nil _ _ _ _) 1 1 rfl hcl Hone.out (by simp only [maxLen]; omega) (by omega) w.heap.size w F.out.b (Nat.le_refl _) F.out.b.size ?_;intro v3 w3 own3 hb3 hg3 _ _;have F:=Live.hp F (World.ownsRow_nil W9 w.heap.size 179 22) (Nat.le_refl _) (by simp) hg3;refine hK.out _ _ (F.out.range1 w.heap.size 0 rfl) (fun hHeld=> ?_);clear hK K;rw [Nat.zero_add,List.nil_append] at own3;obtain ⟨A3,c3,rfl,_,_,_⟩:=own_form own3;try go_frame
 refine tk 10 7 rfl ?_;try go_frame
 refine wpAnyH_done (by kernel_rfl) ?_ _;have R3:Reads w3 w.heap.size 22 A D.length (spv D):=HRd.out.below F.out.b;have hDl:=HDl.out;clear hHeld;go_wp2_with (at_builtin; refine wpList_append_any w3 rfl _ _ 173 rfl w.heap.size 179 i0 _ 22 344 Tryz.underlying173 hi0 hz0 hz1 hz2 rfl (by decide) (.slice A3 1 c3) 1 (.string ⟨pl.toArray⟩:: .string ⟨T.toArray⟩:: .string ⟨S.toArray⟩::NV) rfl own3 w.heap.size A D.length c (spv D) rfl R3 HoneD.out (by simp only [maxLen]; omega) (by omega) F.out.b.size ?_; intro v4 w4 own4 hg4 _; obtain ⟨A4,c4,rfl,_,_,_⟩:=own_form own4; have F4:=Live.hp F own3 (Nat.le_refl _) (by simp) hg4; have O4:=ι own4; clear own4 hg4 own3 R3)
 refine HP.out A4 c4 (1+D.length) _ (by omega) ?_ F4.out.b;rw [HS.out];exact O4.out
def lessW (l:List Trie.KV) (c:Nat):List Trie.KV:=l.map fun x=>(x.1.drop c,x.2)
theorem ref10_less (w:World) (A:Option Addr) (cp:Nat) (l:List Trie.KV) (HR:Reads w w.heap.size 2 A l.length (icells l)) (hl:l.length≤2000) (c:Nat) (hc:∀ x∈l,c≤x.1.length∧x.1.length≤1000000):
  Calls Tryz.prog 181 #[.slice A l.length cp,c] w (ItemsEnd w (lessW l c)):=by
 have HP:Hid (∀ A c' n w',n=l.length→w'.ownsRow w.heap.size 218 2 (.slice A n c') n (icells (lessW l c))→Below w.heap.size w w'→ItemsEnd w (lessW l c) (.returned (.slice A n c')) w'):=ι (fun A c' n w' g1 g2 g3=>⟨A,n,c',rfl,by rw [g1,lessW,List.length_map],g2,g3⟩);generalize ItemsEnd w (lessW l c)=P at HP ⊢;have HRR:=ι HR;have HC:=ι hc;have HL:=ι hl;clear HR hc hl;go_enter Tryz.func181,Tryz.ntmps181
 go_upto_region 3 with fail
 refine wp_loop_ghost_k (fun k a wr=>∀ Φ:Act→Prop,(∀ ⦃s2 s3 s4 s7 s8 s9 s0 s1 s5 s6 a0 a2 a3 a4 a5 a6 a7 a8 a9 b0 b1 b2 b3 b4 b5 b6:Value⦄ (i n c2:Nat) (O:Option Addr),(i+k=l.length∧n=i∧wr.ownsRow w.heap.size 218 2 (.slice O n c2) n (icells (lessW (l.take i) c))∧Below w.heap.size w wr)→Φ {tmps:=#[.slice A l.length cp,.int .i64 (c:Int),s2,s3,s4,.slice O n c2,.int .i64 (i:Int),s7,s8,s9,s0,s1,s5,s6,a0,a2,a3,a4,a5,a6,a7,a8,a9,b0,b1,b2,b3,b4,b5,b6],defers:= []})→Φ a) (l.length) ?_ ?_
 ·refine fun Φ hΦ=>hΦ (0) (0) (0) (none) ?_;exact ⟨by omega,rfl,World.ownsRow_nil _ _ _ _,Below.refl _ _⟩
 ·intro k1 a1 wr1 hI1 J1 K1 hJ1 hK1;refine hI1 (fun a=>Code.wp _ _ _ a _) ?_;clear hI1 a1;iterate 26 (intro _)
  intro i n c2 O hrel
  show Code.wp _ _ _ _ _;obtain ⟨h1,rfl,own,hb⟩:=hrel;by_cases hi:n<l.length
  ·obtain ⟨ad,off,rfl,hbl,hcell⟩:=item_cells HRR.out hi;obtain ⟨q0,q1⟩:=hcell _ hb;have hcx:=HC.out _ (List.getElem_mem hi);have HS:Hid (lessW (l.take (n+1)) c=lessW (l.take n) c++ [(l[n].1.drop c,l[n].2)]):=ι (by
    unfold lessW; rw [List.take_succ_eq_append_getElem hi,List.map_append]; rfl)
   have hi1:(n:Int)<l.length:=by omega
   have hi0:(0:Int)≤n:=by omega
   have hn2:=HL.out;have hn3:n≤2000:=by omega
   have HI:=ι h1;have HCl:=ι hcell;clear hcell h1;generalize l[n]=x at *;obtain ⟨xk,xv⟩:=x;simp only at q0 q1 hcx HS HCl;have hdr:=run_drop xk c hcx.1;obtain ⟨hc1,hc2⟩:=hcx;generalize xk.drop c=xd at *;go_upto_region 5 with fail
   go_region_held3 (fun w'=>w'.cell? ⟨ad,off+n*2,none⟩=some (xk:Value)∧w'.cell? ⟨ad,off+n*2+1,none⟩=some (xv:Value)) (first|go_keep|(constructor<;>assumption)) ((refine step_append_new wr1 218 [xd,xv] rfl _ _ 44 rfl w.heap.size 2 32 _ info_item Tryz.underlying44 rfl (by decide) (.slice O n c2) n _ rfl own 1 1 rfl rfl (by simp [Value.oneCell']) (by simp only [maxLen]; omega) (by omega) w.heap.size w hb (Nat.le_refl _) hb.size ?_; intro v2 w2 hown2 hb2 hgr2 ho2 hlt2; obtain ⟨A2,cc2,rfl,_,_,_⟩:=own_form hown2; obtain ⟨q0,q1⟩:=HCl.out _ hb2; have O2:=ι (And.intro hown2 hb2); clear hown2 hb2 hgr2 ho2 hlt2))
   go_wp2
   refine Handed.intro (l.length - (n+1)) ?_ (hJ1 _ _ _ (fun Φ hΦ=>hΦ (n+1) (n+1) (cc2) (A2) ?_))
   ·have:=HI.out; omega
   ·refine ⟨by have:=HI.out; omega,rfl,?_,O2.out.2⟩;rw [HS.out,icells_snoc];exact O2.out.1
  ·have hi2:((n:Int)<l.length)=False:=by simp; omega
   have e:l.take n=l:=List.take_of_length_le (by omega);rw [e] at own;have O2:=ι (And.intro own hb);have hn:Hid (n=l.length):=ι (by omega);clear own hb e;go_wp2
   exact HP.out _ _ _ _ hn.out O2.out.1 O2.out.2
theorem own_cap {w:World} {base e size n c:Nat} {A:Option Addr} {xs:List Value} (h:w.ownsRow base e size (.slice A n c) n xs):n≤c:=by
 obtain ⟨A',c',hv,_,hc,_⟩:=own_form h;injection hv with _ _ hv
 omega
def GrownAt (t:Trie.T) (pl:List UInt8):Prop:=∀ (w:World) (A:Option Addr) (c n:Nat),n=Trie.count t→n≤c→Reads w w.heap.size 2 A n (icells (Trie.items t []))→
 Calls Tryz.prog 156 #[.slice A n c,pl] w (SpotsEnd w (Trie.goT allW t pl))
theorem grown_nil (pl:List UInt8):GrownAt .nil pl:=by
 intro w A c n hn hcap HR;obtain rfl:n=0:=hn;have HP:Hid (∀ w',Below w.heap.size w w'→SpotsEnd w (Trie.goT allW .nil pl) (.returned (.slice none 0 0)) w'):=ι (fun w' h=>⟨none,0,0,rfl,rfl,World.ownsRow_nil _ _ _ _,h⟩);generalize SpotsEnd w (Trie.goT allW .nil pl)=P at HP ⊢;clear HR hcap;go_enter Tryz.func156,Tryz.ntmps156
 go_wp2
 exact HP.out _ (Below.refl _ _)
theorem grown_leaf (p v:List UInt8) (pl:List UInt8) (ha:Trie.At pl (.leaf p v)):GrownAt (.leaf p v) pl:=by
 intro w A c n hn hcap HR;obtain rfl:n=1:=hn;have HP:Hid (∀ e w',SpotsEnd w [(pl,.leaf p v)] e w'→SpotsEnd w (Trie.goT allW (.leaf p v) pl) e w'):=ι (fun e w' h=>h);generalize SpotsEnd w (Trie.goT allW (.leaf p v) pl)=P at HP ⊢;have HSp:Hid (∀ W,Below w.heap.size w W→Calls Tryz.prog 179 #[pl,.agg #[.int .i64 1,p,v,ε,ε,ε,ε,ε,ε,ε,ε,ε,ε,ε,ε,ε,ε,ε,ε],ν] W (fun e w'=>∃ A n c,e= .returned (.slice A n c)∧Below w.heap.size w w'∧P (.returned (.slice A n c)) w')):=ι (fun W hb=>(ref10_spot W pl (.leaf p v) (by simp) ha.wf ha.small [] (by simp) none 0 Reads.none_).mono fun e w' ⟨A,c,n,he,h1,h2,h3⟩=>⟨A,n,c,he,Below.nxt hb h3,HP.out _ _ ⟨A,c,n,rfl,h1,own_lower h2 hb.size,Below.nxt hb h3⟩⟩);have hsh:=Trie.items_short ha (p,v) (by simp [Trie.items]);obtain ⟨ad,off,rfl,hbl,hcell⟩:=item_cells (l:= [(p,v)]) HR (i:=0) (by simp);simp only [List.getElem_cons_zero,Nat.zero_mul,Nat.add_zero] at hcell;have HCl:=ι hcell;obtain ⟨q0,q1⟩:=hcell _ (Below.refl _ _);clear HR hcell ha hcap;go_enter Tryz.func156,Tryz.ntmps156
 go_upto_region 4 with fail
 go_region_held3 (fun w'=>w'.cell? ⟨ad,off,none⟩=some (p:Value)∧w'.cell? ⟨ad,off+1,none⟩=some (v:Value)) (first|go_keep|(constructor<;>assumption)) ((go_at_call 179; refine (HSp.out _ (by first|exact (Below.refl _ _).drew|exact Below.refl _ _)).mono ?_; rintro e w1 ⟨A1,n1,c1,rfl,hb,hp⟩; have HF:=ι hp; obtain ⟨z0,z1⟩:=HCl.out _ hb; clear hp hb))
 go_wp2
 exact HF.out
theorem goT_head {t:Trie.T} (h:t≠ .nil) (pl:List UInt8):∃ D,Trie.goT allW t pl=(pl,t)::D:=by
 cases t with
 |nil=>exact absurd rfl h
 |leaf p v=>exact ⟨[],rfl⟩
 |ext p t=>exact ⟨_,rfl⟩
 |branch v kids=>exact ⟨_,rfl⟩
theorem grown_ext (p:List UInt8) (t:Trie.T) (pl:List UInt8) (ha:Trie.At pl (.ext p t)) (hc:Trie.count t≤2000) (IH:GrownAt t (pl++p)):GrownAt (.ext p t) pl:=by
 intro w A c n hn hcap HR;have HP:Hid (∀ e w',SpotsEnd w ((pl,.ext p t)::Trie.goT allW t (pl++p)) e w'→SpotsEnd w (Trie.goT allW (.ext p t) pl) e w'):=ι (fun e w' h=>h);generalize SpotsEnd w (Trie.goT allW (.ext p t) pl)=P at HP ⊢;have hw:=ha.wf;have htn:t≠ .nil:=by rintro rfl; simp [Trie.wf,Trie.isBranch] at hw
 have h2:2≤Trie.count t:=by
  cases t with
  |branch v kids=>exact Trie.items_two hw.2.2.2
  |_=>simp [Trie.wf,Trie.isBranch] at hw
 obtain ⟨m,hm⟩:∃ m,Trie.count t=m+1:=⟨Trie.count t - 1,by omega⟩
 have hm1:1≤m∧m≤2000:=by omega
 obtain rfl:n=m+1:=hn.trans hm;obtain ⟨L,hL⟩:∃ L,Trie.items (.ext p t) []=L:=⟨_,rfl⟩
 have hLl:L.length=m+1:=by rw [←hL,Trie.length_items]; exact hm
 obtain ⟨x,L0,e1⟩:∃ x L0,L=x::L0:=by
  cases L with
  |nil=>simp at hLl
  |cons a b=>exact ⟨a,b,rfl⟩
 obtain ⟨L1,z,e2⟩:∃ L1 z,L0=L1++ [z]:=by
  rcases List.eq_nil_or_concat L0 with e|⟨a,b,e⟩
  ·rw [e1,e] at hLl; simp at hLl; omega
  ·exact ⟨a,b,by rw [e]; simp⟩
 have hap:=Trie.ext_apart hw x z L1 (by rw [hL,e1,e2]);have hsx:=Trie.items_short ha x (by rw [hL,e1]; simp);have hsz:=Trie.items_short ha z (by rw [hL,e1,e2]; simp);obtain ⟨xr,hxr⟩:∃ r,x.1=p++r:=by
  have:x∈Trie.items (.ext p t) []:=by rw [hL,e1]; simp
  rw [show Trie.items (.ext p t) []=Trie.items t ([]++p) from rfl,Trie.items_pl,List.mem_map] at this;obtain ⟨y,_,hy⟩:=this;exact ⟨y.1,by rw [←hy]; simp⟩
 rw [hL,←hLl] at HR;obtain ⟨ad,off,rfl,hbl,hcell0⟩:=item_cells HR (i:=0) (by omega);obtain ⟨ad',off',hA',_,hcellz⟩:=item_cells HR (i:=m) (by omega);injection hA' with hA'
 injection hA' with hA1 hA2
 subst hA1 hA2;have ez:L[m]'(by omega)=z:=by
  have:L[m]?=some z:=by
   have hl1:L1.length+1=m:=by rw [e1,e2] at hLl; simp at hLl; omega
   rw [e1,e2,←hl1,List.getElem?_cons_succ,List.getElem?_append_right (by omega),Nat.sub_self]; rfl
  rw [List.getElem?_eq_getElem (by omega)] at this;exact Option.some.inj this
 have ex:L[0]'(by omega)=x:=by simp [e1]
 simp only [ex,ez,Nat.zero_mul,Nat.add_zero] at hcell0 hcellz;have HCl:Hid (∀ w',Below w.heap.size w w'→w'.cell? ⟨ad,off,none⟩=some (x.1:Value)∧w'.cell? ⟨ad,off+m*2,none⟩=some (z.1:Value)):=ι (fun w' hb=>⟨(hcell0 w' hb).1,(hcellz w' hb).1⟩);have hple:=Trie.At.len ha (by simp);have hpne:=hw.2.1;have hp1:1≤p.length:=List.length_pos_iff.2 hpne;have hp16:p.length≤16:=by have:=hsx.1; rw [hxr,List.length_append] at this; omega
 have HLs:Hid (∀ W,Below w.heap.size w W→Calls Tryz.prog 181 #[.slice (some ⟨ad,off,none⟩) (m+1) c,p.length] W (ItemsEnd W (Trie.items t []))):=ι (fun W hb=>by
  have hls:lessW L p.length=Trie.items t []:=by rw [←hL]; exact Trie.less_items t p
  have:=ref10_less W (some ⟨ad,off,none⟩) c L ((HR.below hb).more hb.size) (by omega) p.length (fun y hy=>by
   rw [←hL] at hy;have h3:=(Trie.items_short ha y hy).1;rw [show Trie.items (.ext p t) []=Trie.items t ([]++p) from rfl,Trie.items_pl,List.mem_map] at hy;obtain ⟨y0,_,rfl⟩:=hy;simp only [List.nil_append,List.length_append] at h3 ⊢;omega)
  rw [hls,hLl] at this;exact this)
 have HCm:Hid (∀ W,Calls Tryz.prog 180 #[x.1,z.1] W (Ret W (.int .i64 (p.length:Int)))):=ι (fun W=>by
  have:=refnib_Common x.1 z.1 W (by have:=hsx.1; omega) (by have:=hsz.1; omega)
  rw [hap] at this;exact this)
 obtain ⟨D0,hD0⟩:=goT_head htn (pl++p);have HDl:=ι (Trie.goT_short hw.2.2.2 (by omega) allW (pl++p));have HIH:Hid (∀ (W:World) (A1:Option Addr) (c1:Nat),m+1≤c1→Reads W W.heap.size 2 A1 (m+1) (icells (Trie.items t []))→Calls Tryz.prog 156 #[.slice A1 (m+1) c1,.string ⟨(pl++p).toArray⟩] W (SpotsEnd W (Trie.goT allW t (pl++p)))):=ι (fun W A1 c1 hcc hr=>IH W A1 c1 (m+1) hm.symm hcc hr);have HSp:Hid (∀ W A1 c1 n1,n1=(Trie.goT allW t (pl++p)).length→Below w.heap.size w W→Reads W W.heap.size 22 A1 n1 (spv (Trie.goT allW t (pl++p)))→Calls Tryz.prog 179 #[pl,.agg (nodeV 2 p [] (Trie.sumT t::List.replicate 15 [])).toArray,.slice A1 n1 c1] W (fun e w'=>∃ A n c,e= .returned (.slice A n c)∧P (.returned (.slice A n c)) w')):=ι (fun W A1 c1 n1 hn1 hb hr=>by
  subst hn1;exact (ref10_spot W pl (.ext p t) (by simp) hw ha.small _ HDl.out A1 c1 hr).mono fun e w' ⟨A,c,n,he,h1,h2,h3⟩=>⟨A,n,c,he,HP.out _ _ ⟨A,c,n,rfl,h1,own_lower h2 hb.size,Below.nxt hb h3⟩⟩)
 have hxt:=run_take x.1 p.length (by rw [hxr,List.length_append]; omega);rw [show x.1.take p.length=p by rw [hxr]; simp] at hxt;have HSm:Hid (∀ (W:World) (base:Nat) (A1:Option Addr) (n1 c1:Nat),n1=(Trie.goT allW t (pl++p)).length→W.ownsRow base 179 22 (.slice A1 n1 c1) n1 (spv (Trie.goT allW t (pl++p)))→∃ g,A1=some ⟨g,0,none⟩∧g<W.heap.size∧0<n1∧W.cell? ⟨g,2,none⟩=some (.string ⟨(Trie.sumT t).toArray⟩)):=ι (fun W base A1 n1 c1 hn1 hr=>by
  have hp:0<n1:=by rw [hn1,hD0]; simp
  obtain ⟨g,cap,hv,_,hlt⟩:=hr.form hp;have hA:A1=some ⟨g,0,none⟩:=by injection hv
  subst hA;refine ⟨g,rfl,hlt,hp,?_⟩
  have:=hr.cells (g:=g) rfl 2 (.string ⟨(Trie.sumT t).toArray⟩) (by rw [hD0]; rfl)
  exact this)
 generalize Trie.goT allW t (pl++p)=D at *;have HIl:Hid ((Trie.items t []).length=m+1):=ι (by rw [Trie.length_items]; exact hm);generalize Trie.items t []=I at *;generalize hS:Trie.sumT t=S at *;obtain ⟨xk,xv⟩:=x;obtain ⟨zk,zv⟩:=z;simp only at hxt HCm HCl hsx hsz;have hx16:=hsx.1;have hz16:=hsz.1;clear hcap hw htn h2 hm hL hLl e1 e2 hap hsx hsz hxr HR hcell0 hcellz ez ex hpne hD0 IH HP ha hc hn hS;obtain ⟨q0,qz⟩:=HCl.out _ (Below.refl _ _);have hsum:pl.length+p.length≤9223372036854775807:=by omega
 have hnl:(9223372036854775807<pl.length+p.length)=False:=by simp; omega
 have hgt:(0:Int)<(p.length:Int):=by omega
 obtain ⟨hm1,hm2⟩:=hm1;have i0:(0:Int)<(m:Int)+1:=by omega
 have i1:(1:Int)≤(m:Int):=by omega
 have i2:(m:Int)≤2000:=by omega
 have i3:IntKind.i64.wrap (m:Int)=m:=IntWalk.i64_in _ (by omega);have i4:IntKind.i64.wrap ((m:Int)+1 - 1)=m:=by rw [Int.add_sub_cancel]; exact i3
 have i5:(0:Int)≤(m:Int):=by omega
 have i6:(m:Int)<(m:Int)+1:=by omega
 go_enter Tryz.func156,Tryz.ntmps156
 go_upto_region 5 with fail
 go_region_held3 (fun w'=>w'.cell? ⟨ad,off,none⟩=some (xk:Value)∧w'.cell? ⟨ad,off+m*2,none⟩=some (zk:Value)) (first|go_keep|(constructor<;>assumption)) ((go_at_call 180; refine (HCm.out _).mono ?_; rintro e w1 ⟨rfl,hb⟩; have B1:Below w.heap.size w w1:=(by first|exact hb|exact hb.start); obtain ⟨z0,z1⟩:=HCl.out _ B1; clear hb))
 go_upto_region 7 with fail
 clear z1;go_region_held3 (fun w'=>w'.cell? ⟨ad,off,none⟩=some (xk:Value)) (first|go_keep|assumption) (first|(go_at_call 181; refine (HLs.out _ (by first|exact B1|exact B1.drew)).mono ?_; rintro e w2 ⟨A1,n1,c1,rfl,hn1,own1,hb⟩; have B2:Below w.heap.size w w2:=(by first|exact Below.nxt B1 hb|exact Below.nxt B1.drew hb); have z0:=(HCl.out _ B2).1; obtain rfl:n1=m+1:=hn1.trans HIl.out; have OW:=ι own1; have OC:Hid (m+1≤c1):=ι (own_cap own1); clear own1 hn1 hb)|(go_at_call 156; refine (HIH.out _ A1 c1 OC.out (Reads.of_own OW.out)).mono ?_; rintro e w3 ⟨A2,c2,n2,rfl,hn2,own2,hb⟩; have B3:Below w.heap.size w w3:=(by first|exact Below.nxt B2 hb); have z0:=(HCl.out _ B3).1; have OG:=ι (And.intro hn2 own2); clear own2 hn2 hb))
 clear HLs HIH HCm hm1 hm2 hx16 hz16 hsum hnl hgt;have F0:=Live.ha (ι (Live.start w3)) #[ζ,ε,ε,ε,ε,ε,ε,ε,ε,ε,ε,ε,ε,ε,ε,ε,ε,ε,ε] 177;have TH:=F0.out.there 0 19 rfl (by decide);have HON:(#[.int .i64 2,p,ε,ε,ε,ε,ε,ε,ε,ε,ε,ε,ε,ε,ε,ε,ε,ε,ε]:Array Value).all (·.oneCell')=true:=all_oneCell_toArray (cs:= [.int .i64 2,.string ⟨p.toArray⟩,.string ⟨#[]⟩,.string ⟨#[]⟩,.string ⟨#[]⟩,.string ⟨#[]⟩,.string ⟨#[]⟩,.string ⟨#[]⟩,.string ⟨#[]⟩,.string ⟨#[]⟩,.string ⟨#[]⟩,.string ⟨#[]⟩,.string ⟨#[]⟩,.string ⟨#[]⟩,.string ⟨#[]⟩,.string ⟨#[]⟩,.string ⟨#[]⟩,.string ⟨#[]⟩,.string ⟨#[]⟩]) (by simp [Value.oneCell']);go_upto_region 9 with (first|(refine wpList_build_eq rfl 177 _ rfl #[.int .i64 2,p,ε,ε,ε,ε,ε,ε,ε,ε,ε,ε,ε,ε,ε,ε,ε,ε,ε] (by simp only [List.map_toArray,List.map_cons,List.map_nil]; kernel_rfl) ?_)|((with_reducible refine at_store 63 ?_); refine wpList_store_mid rfl 177 _ _ rfl w3.heap.size 0 #[.int .i64 2,p,ε,ε,ε,ε,ε,ε,ε,ε,ε,ε,ε,ε,ε,ε,ε,ε,ε] rfl rfl TH info_node HON ?_))
 have F:=Live.hall F0 0 (#[.int .i64 2,p,ε,ε,ε,ε,ε,ε,ε,ε,ε,ε,ε,ε,ε,ε,ε,ε,ε]:Array Value).toList rfl rfl;clear TH F0 HON;generalize World.setCells _ w3.heap.size 0 _=W4 at F ⊢;obtain ⟨g4,rfl,hlt4,hp4,hs4⟩:=HSm.out w3 _ A2 n2 c2 OG.out.1 OG.out.2
 replace hs4:=(F.out.b.cell (p:=⟨g4,2,none⟩) hlt4).trans hs4
 have k3:W4.cell? ⟨w3.heap.size,3,none⟩=some (.string ⟨#[]⟩):=F.out.cell 0 3 rfl rfl;have f3:W4.frozen? ⟨w3.heap.size,3,none⟩=false:=F.out.frozen 0 3 rfl;have n2p:(0:Int)<(n2:Int):=by omega
 clear z0;go_upto_region 10 with fail
 have F:=Live.hs F 0 3 (.string ⟨S.toArray⟩) rfl;generalize W4.setCell ⟨w3.heap.size,3,none⟩ (.string ⟨S.toArray⟩)=W5 at F ⊢
 replace F:Hid (Live w3 W5 [(w3.heap.size,177,(nodeV 2 p [] (S::List.replicate 15 [])).toArray)]):=F
 clear k3 f3 hs4;have RA:=F.out.range1 w3.heap.size 0 rfl;have SZ:(Tryz.prog.info? 177).map (·.size)=some (nodeV 2 p [] (S::List.replicate 15 [])).length:=by rw [nodeV_size (by simp)]; exact info_node
 have HS5:=ι (HSp.out W5 (some ⟨g4,0,none⟩) c2 n2 OG.out.1 (Below.nxt B3 F.out.b) (((Reads.of_own OG.out.2).below F.out.b).more F.out.b.size));clear HSp;generalize (nodeV 2 p [] (S::List.replicate 15 []))=NV at *;go_wp2_with (first|((with_reducible refine at_load 71 ?_); refine wpList_load_mid rfl 177 _ rfl w3.heap.size 0 rfl _ _ RA Tryz.underlying177 rfl SZ ?_)|(go_at_call 179; refine HS5.out.mono ?_; rintro e w6 ⟨A6,n6,c6,rfl,hp⟩; have HF:=ι hp; clear hp))
 exact HF.out
def someW (l:List Trie.KV) (i:Nat):List Trie.KV:=l.filter fun x=>decide ((x.1.getD 0 0).toNat=i)
theorem grown_inner (w0:World) (l:List Trie.KV) (A:Option Addr) (c:Nat) (HR:Reads w0 w0.heap.size 2 A l.length (icells l)) (hl:l.length≤2000) (hne:∀ x∈l,x.1≠ []) (i:Nat) (hi:i<16) (pl:List UInt8) (nb:Nat) (AL:Value)
  (Q:Exit→Act→World→Prop)
  (hQ:∀ ⦃s2 s3 s4 s5 s6 s7 s0 s1 s8 s9 a0 a2 a3 a4 a5 a6 a7 a8 a9 b0 b1 b2 b3 b4 b5 b6 b7 b8 b9 c0 c1 c4 c5 c6 c7 c8 c9 d0 d1 d2 d3 d4 d5 d6 d7 d8 d9 e0 e1 e2 e3 e4 e5 e6 e7 e8 e9 f0 f1 f2 f3 f4 f5 f6 f7 f8 f9 g0 g1 g2 g3 g4 g5 g6 g7 g8 g9 h0 h4 h5 h6 h7 h8 h9 i0 i1 i2 i3 i4 i5 i6 i7 i8 i9 j0 j1 j2 j3 j4 j5 j6 j7 j8 j9 k0 k2 k3 k4 k5 k6 k7 k8 k9 l0 l1 l2 l3 l4 l5 l6 l7 l8 l9 m0 m1 m2 m3 m4 m5 m6 m7 m8 m9:Value⦄ (A2:Option Addr) (n2 c2:Nat) (w2:World),n2=(someW l i).length→w2.ownsRow w0.heap.size 218 2 (.slice A2 n2 c2) n2 (icells (someW l i))→Below w0.heap.size w0 w2→Q (.exit 2) {tmps:=#[.slice A l.length c,.string ⟨pl.toArray⟩,s2,s3,s4,s5,s6,s7,.pointer (some ⟨nb,0,none⟩),AL,.int .i64 (i:Int),.slice A2 n2 c2,s0,s1,s8,s9,a0,a2,a3,a4,a5,a6,a7,a8,a9,b0,b1,b2,b3,b4,b5,b6,b7,b8,b9,c0,c1,c4,c5,c6,c7,c8,c9,d0,d1,d2,d3,d4,d5,d6,d7,d8,d9,e0,e1,e2,e3,e4,e5,e6,e7,e8,e9,f0,f1,f2,f3,f4,f5,f6,f7,f8,f9,g0,g1,g2,g3,g4,g5,g6,g7,g8,g9,h0,h4,h5,h6,h7,h8,h9,i0,i1,i2,i3,i4,i5,i6,i7,i8,i9,j0,j1,j2,j3,j4,j5,j6,j7,j8,j9,k0,k2,k3,k4,k5,k6,k7,k8,k9,l0,l1,l2,l3,l4,l5,l6,l7,l8,l9,m0,m1,m2,m3,m4,m5,m6,m7,m8,m9],defers:= []} w2)
  (s2 s3 s4 s5 s6 s7 s1 s8 s9 a0 a2 a3 a4 a5 a6 a7 a8 a9 b0 b1 b2 b3 b4 b5 b6 b7 b8 b9 c0 c1 c4 c5 c6 c7 c8 c9 d0 d1 d2 d3 d4 d5 d6 d7 d8 d9 e0 e1 e2 e3 e4 e5 e6 e7 e8 e9 f0 f1 f2 f3 f4 f5 f6 f7 f8 f9 g0 g1 g2 g3 g4 g5 g6 g7 g8 g9 h0 h4 h5 h6 h7 h8 h9 i0 i1 i2 i3 i4 i5 i6 i7 i8 i9 j0 j1 j2 j3 j4 j5 j6 j7 j8 j9 k0 k2 k3 k4 k5 k6 k7 k8 k9 l0 l1 l2 l3 l4 l5 l6 l7 l8 l9 m0 m1 m2 m3 m4 m5 m6 m7 m8 m9:Value):
  Code.wp Tryz.prog (.loop (loopAt Tryz.f156 1)) Q {tmps:=#[.slice A l.length c,.string ⟨pl.toArray⟩,s2,s3,s4,s5,s6,s7,.pointer (some ⟨nb,0,none⟩),AL,.int .i64 (i:Int),.slice none 0 0,.int .i64 0,s1,s8,s9,a0,a2,a3,a4,a5,a6,a7,a8,a9,b0,b1,b2,b3,b4,b5,b6,b7,b8,b9,c0,c1,c4,c5,c6,c7,c8,c9,d0,d1,d2,d3,d4,d5,d6,d7,d8,d9,e0,e1,e2,e3,e4,e5,e6,e7,e8,e9,f0,f1,f2,f3,f4,f5,f6,f7,f8,f9,g0,g1,g2,g3,g4,g5,g6,g7,g8,g9,h0,h4,h5,h6,h7,h8,h9,i0,i1,i2,i3,i4,i5,i6,i7,i8,i9,j0,j1,j2,j3,j4,j5,j6,j7,j8,j9,k0,k2,k3,k4,k5,k6,k7,k8,k9,l0,l1,l2,l3,l4,l5,l6,l7,l8,l9,m0,m1,m2,m3,m4,m5,m6,m7,m8,m9],defers:= []} w0:=by
 have HQ:=ι hQ;have HRR:=ι HR;have HN:=ι hne;have HL:=ι hl;clear hQ HR hne hl;refine wp_loop_ghost_k (fun k a wr=>∀ Φ:Act→Prop,(∀ ⦃s2 s3 s4 s5 s6 s7 s1 s8 s9 a0 a2 a3 a4 a5 a6 a7 a8 a9 b0 b1 b2 b3 b4 b5 b6 b7 b8 b9 c0 c1 c4 c5 c6 c7 c8 c9 d0 d1 d2 d3 d4 d5 d6 d7 d8 d9 e0 e1 e2 e3 e4 e5 e6 e7 e8 e9 f0 f1 f2 f3 f4 f5 f6 f7 f8 f9 g0 g1 g2 g3 g4 g5 g6 g7 g8 g9 h0 h4 h5 h6 h7 h8 h9 i0 i1 i2 i3 i4 i5 i6 i7 i8 i9 j0 j1 j2 j3 j4 j5 j6 j7 j8 j9 k0 k2 k3 k4 k5 k6 k7 k8 k9 l0 l1 l2 l3 l4 l5 l6 l7 l8 l9 m0 m1 m2 m3 m4 m5 m6 m7 m8 m9:Value⦄ (j n c2:Nat) (O:Option Addr),(j+k=l.length∧n=(someW (l.take j) i).length∧n≤j∧wr.ownsRow w0.heap.size 218 2 (.slice O n c2) n (icells (someW (l.take j) i))∧Below w0.heap.size w0 wr)→Φ {tmps:=#[.slice A l.length c,.string ⟨pl.toArray⟩,s2,s3,s4,s5,s6,s7,.pointer (some ⟨nb,0,none⟩),AL,.int .i64 (i:Int),.slice O n c2,.int .i64 (j:Int),s1,s8,s9,a0,a2,a3,a4,a5,a6,a7,a8,a9,b0,b1,b2,b3,b4,b5,b6,b7,b8,b9,c0,c1,c4,c5,c6,c7,c8,c9,d0,d1,d2,d3,d4,d5,d6,d7,d8,d9,e0,e1,e2,e3,e4,e5,e6,e7,e8,e9,f0,f1,f2,f3,f4,f5,f6,f7,f8,f9,g0,g1,g2,g3,g4,g5,g6,g7,g8,g9,h0,h4,h5,h6,h7,h8,h9,i0,i1,i2,i3,i4,i5,i6,i7,i8,i9,j0,j1,j2,j3,j4,j5,j6,j7,j8,j9,k0,k2,k3,k4,k5,k6,k7,k8,k9,l0,l1,l2,l3,l4,l5,l6,l7,l8,l9,m0,m1,m2,m3,m4,m5,m6,m7,m8,m9],defers:= []})→Φ a) (l.length) ?_ ?_
 ·refine fun Φ hΦ=>hΦ (0) (0) (0) (none) ?_;exact ⟨by omega,rfl,by omega,World.ownsRow_nil _ _ _ _,Below.refl _ _⟩
 ·intro k1 a1 wr1 hI1 J1 K1 hJ1 hK1;refine hI1 (fun a=>Code.wp _ _ _ a _) ?_;clear hI1 a1;iterate 132 (intro _)
  intro j n c2 O hrel
  show Code.wp _ _ _ _ _
  conv=>arg 2; whnf
  obtain ⟨h1,h2,h3,own,hb⟩:=hrel;by_cases hj:j<l.length
  ·obtain ⟨ad,off,rfl,hbl,hcell⟩:=item_cells HRR.out hj;obtain ⟨q0,q1⟩:=hcell _ hb;have hx:=HN.out _ (List.getElem_mem hj);have HS:Hid (someW (l.take (j+1)) i=someW (l.take j) i++(if (l[j].1.getD 0 0).toNat=i then [l[j]] else [])):=ι (by
    unfold someW; rw [List.take_succ_eq_append_getElem hj,List.filter_append];simp only [List.filter_cons,List.filter_nil,decide_eq_true_eq])
   have hj1:(j:Int)<l.length:=by omega
   have hj0:(0:Int)≤j:=by omega
   have hl2:=HL.out;have hn3:n≤2000:=by omega
   have HI:=ι (And.intro h1 (And.intro h2 h3));clear hcell h1 h2 h3;generalize l[j]=x at *;generalize someW (l.take j) i=M at *;obtain ⟨xk,xv⟩:=x;simp only at q0 q1 hx HS;have hby:∀ W,(Instr.index 9 (.string ⟨xk.toArray⟩) (.int .i64 0)).run Tryz.prog W= .ok (.int .u8 ((xk.getD 0 0).toNat:Int)) W:=fun W=>run_byte xk 0 (List.length_pos_iff.2 hx) W;generalize xk.getD 0 0=b at *;have hb256:=b.toNat_lt;clear hx;by_cases hbi:b.toNat=i
   ·subst hbi;rw [if_pos rfl] at HS;have hone:∀ u∈ [Value.string ⟨xk.toArray⟩,Value.string ⟨xv.toArray⟩],u.oneCell'=true:=by simp [Value.oneCell']
    go_wp2_with (at_builtin; refine wpList_append_new wr1 218 [xk,xv] rfl _ _ 44 rfl w0.heap.size 2 32 _ info_item Tryz.underlying44 rfl (by decide) (.slice O n c2) n (icells M) rfl own 1 1 rfl rfl hone (by simp only [maxLen]; omega) (by omega) w0.heap.size w0 hb (Nat.le_refl _) hb.size ?_; intro v3 w3 own3 hb3 hg3 _ _; obtain ⟨A3,c3,rfl,_,_,_⟩:=own_form own3; have O3:=ι (And.intro own3 hb3); clear own3 hg3 hb3)
    refine Handed.intro (l.length - (j+1)) ?_ (hJ1 _ _ _ (fun Φ hΦ=>hΦ (j+1) (n+1) (c3) (A3) ?_))
    ·have:=HI.out.1; omega
    ·refine ⟨by have:=HI.out.1; omega,by rw [HS.out,List.length_append,←HI.out.2.1]; rfl,by have:=HI.out.2.2; omega,?_,O3.out.2⟩;rw [HS.out,icells_snoc];exact O3.out.1
   ·rw [if_neg hbi,List.append_nil] at HS;have hbi2:((b.toNat:Int)==(i:Int))=false:=by rw [beq_eq_false_iff_ne]; omega
    have O3:=ι (And.intro own hb);clear own hb;go_wp2
    refine Handed.intro (l.length - (j+1)) ?_ (hJ1 _ _ _ (fun Φ hΦ=>hΦ (j+1) (n) (c2) (O) ?_))
    ·have:=HI.out.1; omega
    ·refine ⟨by have:=HI.out.1; omega,by rw [HS.out]; exact HI.out.2.1,by have:=HI.out.2.2; omega,?_,O3.out.2⟩;rw [HS.out];exact O3.out.1
  ·have hj2:((j:Int)<l.length)=False:=by simp; omega
   rw [List.take_of_length_le (by omega)] at h2 own;have O2:=ι (And.intro h2 (And.intro own hb));clear own hb h2;go_wp2
   exact HQ.out _ _ _ _ O2.out.1 O2.out.2.1 O2.out.2.2
end
end Go.Proofs.YtdkiloganbhfkaaGreatDoor