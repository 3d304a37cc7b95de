import Derived.Test.YtnelhjfjkkdoaaaGreatDoorK03
import Derived.Lib.AppendStr
set_option linter.unusedSimpArgs false
set_option linter.unusedVariables false
set_option maxHeartbeats 4000000
set_option maxRecDepth 100000
namespace Go.Proofs.YtnelhjfjkkdoaaaGreatDoor
section
open Go.RowKit Go.Instr
def hcells (h:List UInt32) (tail:Value) (n:Int):Array Value:=(wvs h++ [tail,.int .i64 n]).toArray
theorem sha_New (w:World):
  Calls Tryz.prog 157 #[] w fun e w'=>∃ g,e= .returned (.pointer (some ⟨g,0,none⟩))∧w.heap.size≤g∧Blk w' g 265 (hcells firstH (.slice none 0 0) 0)∧Below w.heap.size w w':=by
 have hf:=sha_First w;rw [firstH_wvs] at hf;have HF:=ι hf;clear hf;have HP:Hid (∀ w1,Below w.heap.size w w1→Blk (w1.alloc (.cells #[.int .u32 1779033703,.int .u32 3144134277,.int .u32 1013904242,.int .u32 2773480762,.int .u32 1359893119,.int .u32 2600822924,.int .u32 528734635,.int .u32 1541459225,ν,ζ] 265)) w1.heap.size 265 (hcells firstH (.slice none 0 0) 0)∧w.heap.size≤w1.heap.size∧Below w.heap.size w (w1.alloc (.cells #[.int .u32 1779033703,.int .u32 3144134277,.int .u32 1013904242,.int .u32 2773480762,.int .u32 1359893119,.int .u32 2600822924,.int .u32 528734635,.int .u32 1541459225,ν,ζ] 265))):=ι (fun w1 hb=>⟨Blk.new _ _ _,hb.size,hb.alloc hb.size _⟩);generalize hcells firstH (.slice none 0 0) 0=hc at *;go_enter Tryz.func157,Tryz.ntmps157
 go_wp2_with fail
 refine HF.out.mono ?_;rintro e w1 ⟨rfl,hb1⟩;go_wp2
 go_ret
 exact ⟨_,rfl,(HP.out w1 hb1).2.1,(HP.out w1 hb1).1,(HP.out w1 hb1).2.2⟩
theorem step_call {P:Program} {ops:Array Oper} {o:Oper} {a:Act} {w:World} {K:Act→World→Prop} {Q:Exit→Act→World→Prop} {E:Prop} (hgd:o.guard=none) (f:FuncId) (args:Array Value) (hrun:(execOp a.eval o).run P w= .ok (.enter f args) w)
  (post:Ending→World→Prop) (hc:Calls P f args w post) (h:∀ e w',post e w'→∃ v,e= .returned v∧K (a.put o.dst v) w'):if Region.wanted o (yielded ops a.tmps)=true then Oper.wp P o a w K Q else E:=by
 have hw:Region.wanted o (yielded ops a.tmps)=true:=by simp [Region.wanted,hgd]
 rw [if_pos hw];unfold Oper.wp;rw [hrun,Oper.upon_enter];refine hc.mono fun e w' hp=> ?_;obtain ⟨v,rfl,hk⟩:=h e w' hp;exact hk
theorem step_append_str {P:Program} {w:World} {ops:Array Oper} {o:Oper} {a:Act} {K:Act→World→Prop} {Q:Exit→Act→World→Prop} {E:Prop} (hgd:o.guard=none) (sl x:Operand) (t u:TypeId)
  (ho:o.op= .call {callee:= .builtin .append,args:=#[sl,x],argTypes:=#[t,u]})
  (base:Nat) (e:TypeId) (i:TypeInfo) (ht:P.underlying t=some (.slice e)) (hu:P.underlying u=some .string) (hi:P.info? e=some i) (hz:i.zero=some (.int .u8 0))
  (hsize:i.size=1) (hby:i.bytes=1)
  (v:Value) (n:Nat) (xs:List Value) (hs:a.eval sl=v) (hown:w.ownsRow base e 1 v n xs) (s:ByteArray) (hx:a.eval x= .string s)
  (h63:n+s.size≤maxLen) (hbytes:n+s.size≤140737488355328) (hbase:base≤w.heap.size)
  (h:∀ v' w',w'.ownsRow base e 1 v' (n+s.size) (xs++Lib.strCells s)→w.grownBy w' v.ownBlock→K (a.put o.dst v') w'):if Region.wanted o (yielded ops a.tmps)=true then Oper.wp P o a w K Q else E:=by
 have hw:Region.wanted o (yielded ops a.tmps)=true:=by simp [Region.wanted,hgd]
 rw [if_pos hw];obtain ⟨v',w',hr,h2,h3,h4⟩:=Lib.run_append_own_string (P:=P) w base t u o.type e i ht hu hi hz hsize hby v n xs hown s h63 hbytes hbase;unfold Oper.wp execOp;simp only [ho,resolve,invoke,builtin,Sem.run_bind,Sem.run_pure,Result.andThen_ok,List.map_toArray,List.map_cons,List.map_nil,hs,hx,hr];exact h v' w' h2 h3
theorem hfacts {w:World} {g:Nat} {v0 v1 v2 v3 v4 v5 v6 v7:Value} {tail n:Value} (h:Blk w g 265 #[v0,v1,v2,v3,v4,v5,v6,v7,tail,n]):
  (w.cell? ⟨g,0,none⟩=some v0∧w.cell? ⟨g,1,none⟩=some v1∧w.cell? ⟨g,2,none⟩=some v2∧w.cell? ⟨g,3,none⟩=some v3∧w.cell? ⟨g,4,none⟩=some v4∧w.cell? ⟨g,5,none⟩=some v5∧w.cell? ⟨g,6,none⟩=some v6∧w.cell? ⟨g,7,none⟩=some v7∧w.cell? ⟨g,8,none⟩=some tail∧w.cell? ⟨g,9,none⟩=some n)∧
  (w.frozen? ⟨g,0,none⟩=false∧w.frozen? ⟨g,1,none⟩=false∧w.frozen? ⟨g,2,none⟩=false∧w.frozen? ⟨g,3,none⟩=false∧w.frozen? ⟨g,4,none⟩=false∧w.frozen? ⟨g,5,none⟩=false∧w.frozen? ⟨g,6,none⟩=false∧w.frozen? ⟨g,7,none⟩=false∧w.frozen? ⟨g,8,none⟩=false∧w.frozen? ⟨g,9,none⟩=false):=
 ⟨⟨h.cell 0,h.cell 1,h.cell 2,h.cell 3,h.cell 4,h.cell 5,h.cell 6,h.cell 7,h.cell 8,h.cell 9⟩,h.frozen 0,h.frozen 1,h.frozen 2,h.frozen 3,h.frozen 4,h.frozen 5,h.frozen 6,h.frozen 7,h.frozen 8,h.frozen 9⟩
theorem write_grown {w W1 w3 w4:World} {g:Nat} (h1:w.grownBy W1 (some g)) (h3:W1.grownBy w3 none) (hb:Below w3.heap.size w3 w4):w.grownBy w4 (some g):=
 ⟨hb.os.trans (h3.os.trans h1.os),hb.tape.trans (h3.tape.trans h1.tape),hb.output.trans (h3.output.trans h1.output),Nat.le_trans h1.size (Nat.le_trans h3.size hb.size),fun k hk hne=>(hb.block k (by have:=h1.size; have:=h3.size; omega)).trans ((h3.block k (by have:=h1.size; omega) (by simp)).trans (h1.block k hk hne))⟩
theorem own_more {w:World} {b1 b2 e size n:Nat} {v:Value} {xs:List Value} (h:w.ownsRow b1 e size v n xs) (hb:b2≤b1):w.ownsRow b2 e size v n xs:=by
 refine ⟨h.1,?_⟩;rcases h.2 with h2|⟨g,cap,cur,rfl,hbg,hg,h3⟩
 ·exact .inl h2
 ·exact .inr ⟨g,cap,cur,rfl,by omega,hg,h3⟩
theorem own_set {w:World} {b e size n g i:Nat} {v u:Value} {xs:List Value} (h:w.ownsRow b e size v n xs) (hne:v.ownBlock≠some g):(w.setCell ⟨g,i,none⟩ u).ownsRow b e size v n xs:=
 own_keep9 h fun k e=>Below.heap_setCell w ⟨g,i,none⟩ u k (fun e2=>hne (by rw [e,e2]))
theorem set9 {w:World} {g:Nat} {t:TypeId} {x0 x1 x2 x3 x4 x5 x6 x7 x8 x9 y0 y1 y2 y3 y4 y5 y6 y7 y8:Value} (h:Blk w g t #[x0,x1,x2,x3,x4,x5,x6,x7,x8,x9]):Blk (((((((((w.setCell ⟨g,0,none⟩ y0).setCell ⟨g,1,none⟩ y1).setCell ⟨g,2,none⟩ y2).setCell ⟨g,3,none⟩ y3).setCell ⟨g,4,none⟩ y4).setCell ⟨g,5,none⟩ y5).setCell ⟨g,6,none⟩ y6).setCell ⟨g,7,none⟩ y7).setCell ⟨g,8,none⟩ y8) g t #[y0,y1,y2,y3,y4,y5,y6,y7,y8,x9]:=by
 have h:=h.set_ 0 y0;simp only [List.setIfInBounds_toArray,List.set_cons_zero] at h;have h:=h.set_ 1 y1;simp only [List.setIfInBounds_toArray,List.set_cons_zero,List.set_cons_succ] at h;have h:=h.set_ 2 y2;simp only [List.setIfInBounds_toArray,List.set_cons_zero,List.set_cons_succ] at h;have h:=h.set_ 3 y3;simp only [List.setIfInBounds_toArray,List.set_cons_zero,List.set_cons_succ] at h;have h:=h.set_ 4 y4;simp only [List.setIfInBounds_toArray,List.set_cons_zero,List.set_cons_succ] at h;have h:=h.set_ 5 y5;simp only [List.setIfInBounds_toArray,List.set_cons_zero,List.set_cons_succ] at h;have h:=h.set_ 6 y6;simp only [List.setIfInBounds_toArray,List.set_cons_zero,List.set_cons_succ] at h;have h:=h.set_ 7 y7;simp only [List.setIfInBounds_toArray,List.set_cons_zero,List.set_cons_succ] at h;have h:=h.set_ 8 y8;simp only [List.setIfInBounds_toArray,List.set_cons_zero,List.set_cons_succ] at h;exact h
theorem set9_own {w:World} {b e size n g:Nat} {v y0 y1 y2 y3 y4 y5 y6 y7 y8:Value} {xs:List Value} (h:w.ownsRow b e size v n xs) (hne:v.ownBlock≠some g):(((((((((w.setCell ⟨g,0,none⟩ y0).setCell ⟨g,1,none⟩ y1).setCell ⟨g,2,none⟩ y2).setCell ⟨g,3,none⟩ y3).setCell ⟨g,4,none⟩ y4).setCell ⟨g,5,none⟩ y5).setCell ⟨g,6,none⟩ y6).setCell ⟨g,7,none⟩ y7).setCell ⟨g,8,none⟩ y8).ownsRow b e size v n xs:=
 (own_set (own_set (own_set (own_set (own_set (own_set (own_set (own_set (own_set h hne) hne) hne) hne) hne) hne) hne) hne) hne)
theorem set9_grown {w0 w:World} {g:Nat} {y0 y1 y2 y3 y4 y5 y6 y7 y8:Value} (h:w0.grownBy w (some g)):w0.grownBy (((((((((w.setCell ⟨g,0,none⟩ y0).setCell ⟨g,1,none⟩ y1).setCell ⟨g,2,none⟩ y2).setCell ⟨g,3,none⟩ y3).setCell ⟨g,4,none⟩ y4).setCell ⟨g,5,none⟩ y5).setCell ⟨g,6,none⟩ y6).setCell ⟨g,7,none⟩ y7).setCell ⟨g,8,none⟩ y8) (some g):=
 (grown_set0 (grown_set0 (grown_set0 (grown_set0 (grown_set0 (grown_set0 (grown_set0 (grown_set0 (grown_set0 h _ _) _ _) _ _) _ _) _ _) _ _) _ _) _ _) _ _)
def WriteEnd (w:World) (g:Nat) (l:List UInt8) (e:Ending) (w':World):Prop:=
 e= .returned (.tuple #[])∧∃ A c,Blk w' g 265 (hcells (hsW firstH l (l.length / 64)) (.slice A (l.drop (64*(l.length / 64))).length c) l.length)∧w'.ownsRow w.heap.size 5 1 (.slice A (l.drop (64*(l.length / 64))).length c) (l.drop (64*(l.length / 64))).length (bvals (l.drop (64*(l.length / 64))))∧w.grownBy w' (some g)
theorem sha_Write (w:World) (g:Nat) (l:List UInt8) (hl:l.length≤1000000) (hT:Tbl w) (hg:Blk w g 265 (hcells firstH (.slice none 0 0) 0)) (hg0:0<g):
  Calls Tryz.prog 158 #[.pointer (some ⟨g,0,none⟩),l] w (WriteEnd w g l):=by
 have hb:Blk w g 265 #[.int .u32 1779033703,.int .u32 3144134277,.int .u32 1013904242,.int .u32 2773480762,.int .u32 1359893119,.int .u32 2600822924,.int .u32 528734635,.int .u32 1541459225,ν,ζ]:=hg;have hlt:=hg.lt;obtain ⟨i0,hi0,hz0,hz1,hz2⟩:=info_parts info_byte;obtain ⟨⟨c0,c1,c2,c3,c4,c5,c6,c7,c8,c9⟩,⟨f0,f1,f2,f3,f4,f5,f6,f7,f8,f9⟩⟩:=hfacts hb;have hlen:(l.length:Int)≤1000000:=by omega
 have HB:=ι hb;have HT:=ι hT;clear hg hb hT;go_enter Tryz.func158,Tryz.ntmps158
 go_wp2_with fail
 have B1:Hid (Blk (w.setCell ⟨g,9,none⟩ (.int .i64 l.length)) g 265 #[.int .u32 1779033703,.int .u32 3144134277,.int .u32 1013904242,.int .u32 2773480762,.int .u32 1359893119,.int .u32 2600822924,.int .u32 528734635,.int .u32 1541459225,ν,l.length]∧w.grownBy (w.setCell ⟨g,9,none⟩ (.int .i64 l.length)) (some g)∧(w.setCell ⟨g,9,none⟩ (.int .i64 l.length)).heap.size=w.heap.size):=ι ⟨HB.out.set_ 9 _,grown_set0 (World.grownBy.refl _ _) _ _,World.size_setCell _ _ _⟩;clear c0 c1 c2 c3 c4 c5 c6 c7 c8 c9 f0 f1 f2 f3 f4 f5 f6 f7 f8 f9;generalize w.setCell ⟨g,9,none⟩ (.int .i64 l.length)=W1 at B1 ⊢;obtain ⟨⟨c0,c1,c2,c3,c4,c5,c6,c7,c8,c9⟩,⟨f0,f1,f2,f3,f4,f5,f6,f7,f8,f9⟩⟩:=hfacts B1.out.1;obtain ⟨u0,u1,u2,u3,u4,u5,u6,u7,hu⟩:=eight (hsW_length firstH l rfl (l.length / 64));have HU:=ι hu;have HC:Hid (∀ A3 c3 w3,Tbl w3→l.length≤c3→Reads w3 w3.heap.size 1 A3 l.length (bvals l)→Calls Tryz.prog 186 #[.agg #[.int .u32 1779033703,.int .u32 3144134277,.int .u32 1013904242,.int .u32 2773480762,.int .u32 1359893119,.int .u32 2600822924,.int .u32 528734635,.int .u32 1541459225],.slice A3 l.length c3] w3 fun e w'=>∃ v',e= .returned (.tuple #[.agg #[.int .u32 (u0.toNat:Int),.int .u32 (u1.toNat:Int),.int .u32 (u2.toNat:Int),.int .u32 (u3.toNat:Int),.int .u32 (u4.toNat:Int),.int .u32 (u5.toNat:Int),.int .u32 (u6.toNat:Int),.int .u32 (u7.toNat:Int)],v'])∧w'.ownsRow (w3.heap.size+2) 5 1 v' (l.drop (64*(l.length / 64))).length (bvals (l.drop (64*(l.length / 64))))∧Below w3.heap.size w3 w'):=ι (fun A3 c3 w3 h1 h2 h3=>(sha_blocks firstH rfl l hl A3 c3 h2 w3 h1 h3).mono (by
  rintro e w' ⟨v',he,h4,h5⟩;rw [hu] at he;exact ⟨v',he,h4,h5⟩))
 have HT1:Hid (∀ w3,W1.grownBy w3 none→Tbl w3):=ι (fun w3 h3=>by
  have h1:=HT.out.grown B1.out.2.1 hg0;exact fun i hi=>(World.cell?_of_block (h3.block 0 h1.pos (by simp))).trans (h1 i hi))
 have HA1:Hid (0+(ByteArray.mk l.toArray).size≤maxLen):=ι (by show 0+l.toArray.size≤9223372036854775807; simp; omega);have HA2:Hid (0+(ByteArray.mk l.toArray).size≤140737488355328):=ι (by show 0+l.toArray.size≤140737488355328; simp; omega);have HP:Hid (∀ A c w',Blk w' g 265 #[.int .u32 (u0.toNat:Int),.int .u32 (u1.toNat:Int),.int .u32 (u2.toNat:Int),.int .u32 (u3.toNat:Int),.int .u32 (u4.toNat:Int),.int .u32 (u5.toNat:Int),.int .u32 (u6.toNat:Int),.int .u32 (u7.toNat:Int),.slice A (l.drop (64*(l.length / 64))).length c,l.length]→w'.ownsRow w.heap.size 5 1 (.slice A (l.drop (64*(l.length / 64))).length c) (l.drop (64*(l.length / 64))).length (bvals (l.drop (64*(l.length / 64))))→w.grownBy w' (some g)→WriteEnd w g l (.returned (.tuple #[])) w'):=ι (fun A c w' h1 h2 h3=>⟨rfl,A,c,by rw [hu]; exact h1,h2,h3⟩);clear hu;generalize WriteEnd w g l=PP at HP ⊢;generalize (l.drop (64*(l.length / 64)))=rest at *;go_region_law (first|(refine step_append_str rfl _ _ 118 9 rfl W1.heap.size 5 i0 Tryz.underlying118 Tryz.underlying9 hi0 hz0 hz1 hz2 (.slice none 0 0) 0 [] rfl (World.ownsRow_nil _ _ _ _) ⟨l.toArray⟩ rfl HA1.out HA2.out (Nat.le_refl _) ?_; intro v3 w3 own3 hg3'; have hg3:W1.grownBy w3 none:=⟨hg3'.os,hg3'.tape,hg3'.output,hg3'.size,hg3'.block⟩; have own3':w3.ownsRow W1.heap.size 5 1 v3 l.length (bvals l):=(by simpa [ByteArray.size,Lib.strCells,bvals] using own3); have G3:=ι (And.intro hg3 own3'); obtain ⟨A3,c3',rfl,hr3,hcc3,_⟩:=own_form own3'; have R3:=ι (And.intro hr3 hcc3); obtain ⟨⟨c0,c1,c2,c3,c4,c5,c6,c7,c8,c9⟩,⟨f0,f1,f2,f3,f4,f5,f6,f7,f8,f9⟩⟩:=hfacts (B1.out.1.grown hg3 (by simp)); clear own3 own3' hg3 hg3' hr3 hcc3)|(refine step_call rfl 186 #[.agg #[.int .u32 1779033703,.int .u32 3144134277,.int .u32 1013904242,.int .u32 2773480762,.int .u32 1359893119,.int .u32 2600822924,.int .u32 528734635,.int .u32 1541459225],.slice A3 l.length c3'] (by go_simp) _ (HC.out A3 c3' _ (HT1.out _ G3.out.1) R3.out.2 R3.out.1) ?_; rintro e w4 ⟨v4,rfl,own4,hb4⟩; refine ⟨_,rfl,?_⟩; have G4:=ι (And.intro own4 hb4); obtain ⟨A4,c4',rfl,_,_,hge4⟩:=own_form own4; obtain ⟨⟨c0,c1,c2,c3,c4,c5,c6,c7,c8,c9⟩,⟨f0,f1,f2,f3,f4,f5,f6,f7,f8,f9⟩⟩:=hfacts ((B1.out.1.grown G3.out.1 (by simp)).below hb4 (B1.out.1.grown G3.out.1 (by simp)).lt); have B4:=ι ((B1.out.1.grown G3.out.1 (by simp)).below hb4 (B1.out.1.grown G3.out.1 (by simp)).lt); have N4:Hid (w.grownBy w4 (some g)):=ι (write_grown B1.out.2.1 G3.out.1 hb4); have L4:Hid (w4.ownsRow w.heap.size 5 1 (.slice A4 rest.length c4') rest.length (bvals rest)):=ι (own_more own4 (by have:=B1.out.2.2; have:=G3.out.1.size; omega)); have N5:Hid ((Value.slice A4 rest.length c4').ownBlock≠some g):=ι (fun e=>by have:=(own4.lt g e).1; have:=B1.out.2.2; have:=G3.out.1.size; omega); clear own4 hb4 hge4))
 all_goals go_wp2
 all_goals go_end0
 all_goals exact HP.out _ _ _ (set9 B4.out) (set9_own L4.out N5.out) (set9_grown N4.out)
def padN (n:Nat):Nat:=(119 - n) % 64
theorem bvals_append (a b:List UInt8):bvals (a++b)=bvals a++bvals b:=by simp [bvals]
theorem rep_snoc (a:List UInt8) (j:Nat):a++List.replicate (j+1) (0:UInt8)=(a++List.replicate j 0)++ [0]:=by
 rw [List.replicate_succ',List.append_assoc]
theorem pad_loop (l:List UInt8) (hl:l.length≤64) (hl1:1≤l.length) (w0:World) (B:Nat) (A:Option Addr) (n c:Nat) (hn0:n=l.length) (own:w0.ownsRow B 5 1 (.slice A n c) n (bvals l)) (hB:B≤w0.heap.size)
  (Q:Exit→Act→World→Prop) (p0:Value)
  (hQ:∀ ⦃s1 s2 s4 s5 s6 s7 s8 s9 s0 s3 a0 a2 a3 a4 a5 a6 a7 a8 a9 b0 b1 b2 b3 b4 b5 b6 b7 b8 b9 c0 c1 c2 c3 c5 c6 c7 c8 c9 d0 d1 d2 d3 d4 d5 d6 d7 d8 d9 e0 e1 e2:Value⦄ (A':Option Addr) (n' c':Nat) (w2:World),n'=(l++List.replicate (padN (l.length - 1)) 0).length→w2.ownsRow B 5 1 (.slice A' n' c') n' (bvals (l++List.replicate (padN (l.length - 1)) 0))→Below B w0 w2→Q (.exit 0) {tmps:=#[p0,s1,s2,.slice A' n' c',s4,s5,s6,s7,s8,s9,s0,s3,a0,a2,a3,a4,a5,a6,a7,a8,a9,b0,b1,b2,b3,b4,b5,b6,b7,b8,b9,c0,c1,c2,c3,c5,c6,c7,c8,c9,d0,d1,d2,d3,d4,d5,d6,d7,d8,d9,e0,e1,e2],defers:= []} w2)
  (s1 s2 s4 s5 s6 s7 s8 s9 s0 s3 a0 a2 a3 a4 a5 a6 a7 a8 a9 b0 b1 b2 b3 b4 b5 b6 b7 b8 b9 c0 c1 c2 c3 c5 c6 c7 c8 c9 d0 d1 d2 d3 d4 d5 d6 d7 d8 d9 e0 e1 e2:Value):
  Code.wp Tryz.prog (.loop (loopAt Tryz.f159 0)) Q {tmps:=#[p0,s1,s2,.slice A n c,s4,s5,s6,s7,s8,s9,s0,s3,a0,a2,a3,a4,a5,a6,a7,a8,a9,b0,b1,b2,b3,b4,b5,b6,b7,b8,b9,c0,c1,c2,c3,c5,c6,c7,c8,c9,d0,d1,d2,d3,d4,d5,d6,d7,d8,d9,e0,e1,e2],defers:= []} w0:=by
 subst hn0;have HQ:=ι hQ;clear hQ;have hZ:padN (l.length - 1)<64∧(l.length+padN (l.length - 1)) % 64=56:=by unfold padN; omega
 obtain ⟨hZ1,hZ2⟩:=hZ;generalize padN (l.length - 1)=Z at *;refine wp_loop_ghost_k (fun k a wr=>∀ Φ:Act→Prop,(∀ ⦃s1 s2 s4 s5 s6 s7 s8 s9 s0 s3 a0 a2 a3 a4 a5 a6 a7 a8 a9 b0 b1 b2 b3 b4 b5 b6 b7 b8 b9 c0 c1 c2 c3 c5 c6 c7 c8 c9 d0 d1 d2 d3 d4 d5 d6 d7 d8 d9 e0 e1 e2:Value⦄ (j:Nat) (Ai:Option Addr) (ni ci:Nat),(j+k=Z∧ni=l.length+j∧wr.ownsRow B 5 1 (.slice Ai ni ci) ni (bvals (l++List.replicate j 0))∧Below B w0 wr)→Φ {tmps:=#[p0,s1,s2,.slice Ai ni ci,s4,s5,s6,s7,s8,s9,s0,s3,a0,a2,a3,a4,a5,a6,a7,a8,a9,b0,b1,b2,b3,b4,b5,b6,b7,b8,b9,c0,c1,c2,c3,c5,c6,c7,c8,c9,d0,d1,d2,d3,d4,d5,d6,d7,d8,d9,e0,e1,e2],defers:= []})→Φ a) (Z) ?_ ?_
 ·refine fun Φ hΦ=>hΦ (0) (A) (l.length) (c) ?_;exact ⟨by omega,rfl,by simpa using own,Below.refl _ _⟩
 ·intro k1 a1 wr1 hI1 J1 K1 hJ1 hK1;refine hI1 (fun a=>Code.wp _ _ _ a _) ?_;clear hI1 a1;iterate 51 (intro _)
  intro j Ai ni ci hrel
  show Code.wp _ _ _ _ _
  conv=>arg 2; whnf
  obtain ⟨h1,hn,ho,hb⟩:=hrel;by_cases hj:j<Z
  ·have m1:((ni:Int) % 64==56)=false:=by
    rw [beq_eq_false_iff_ne];omega
   have m2:((ni:Int) % 64 !=56)=true:=by
    rw [bne_iff_ne];omega
   have hns:ni≤200:=by omega
   have E:=ι (rep_snoc l j);have H:=ι (And.intro h1 (And.intro hn (And.intro ho (And.intro hb hj))));have hwr:B≤wr1.heap.size:=Nat.le_trans hB hb.size;clear h1 hn ho hb hj hZ1 hZ2;go_wp2_with (at_builtin; refine wpList_append_new wr1 5 [.int .u8 0] rfl _ _ 118 rfl B 1 1 _ info_byte Tryz.underlying118 rfl (by decide) (.slice Ai ni ci) ni _ rfl H.out.2.2.1 1 1 rfl rfl (by simp [Value.oneCell']) (by simp only [maxLen]; omega) (by omega) B w0 H.out.2.2.2.1 (Nat.le_refl _) hwr ?_; intro v4 w4 own4 hb4 hg4 ho4 hs4; obtain ⟨A4,c4,rfl,_,_,_⟩:=own_form own4; have G4:=ι (And.intro own4 hb4); clear own4 hb4 hg4 ho4 hs4)
   refine Handed.intro (Z - (j+1)) ?_ (hJ1 _ _ _ (fun Φ hΦ=>hΦ (j+1) (A4) (ni+1) (c4) ?_))
   ·have:=H.out
    show Z - (j+1)<k1;omega
   ·obtain ⟨h1,hn,ho,hb,hj⟩:=H.out;have o4:=G4.out.1;have e:bvals (l++List.replicate j 0)++ [.int .u8 0]=bvals (l++List.replicate (j+1) 0):=by rw [E.out,bvals_append (l++List.replicate j 0) [0]]; rfl
    rw [e] at o4;exact ⟨by omega,by omega,o4,G4.out.2⟩
  ·have ej:j=Z:=by omega
   subst ej;have m1:((ni:Int) % 64==56)=true:=by
    rw [beq_iff_eq];omega
   have m2:((ni:Int) % 64 !=56)=false:=by
    rw [bne_eq_false_iff_eq];omega
   have H:=ι (And.intro hn (And.intro ho hb));clear h1 hn ho hb;go_wp2
   refine HQ.out _ _ _ _ ?_ H.out.2.1 H.out.2.2;rw [List.length_append,List.length_replicate];exact H.out.1
def bb (m i:Nat):UInt8:=UInt8.ofNat (8*m / 2 ^ (56 - 8*i))
def bitsB (m i:Nat):List UInt8:=(List.range i).map (bb m)
theorem bitsB_succ (m i:Nat):bitsB m (i+1)=bitsB m i++ [bb m i]:=by simp [bitsB,List.range_succ]
theorem bitsB_length (m i:Nat):(bitsB m i).length=i:=by simp [bitsB]
theorem u8_wrap_nat (x:Nat):IntKind.u8.wrap (x:Int)=((UInt8.ofNat x).toNat:Int):=by
 simp [IntKind.wrap,IntKind.bits,IntKind.signed]
theorem u8_div_small (M D:Nat) (h:M / D<256):(M:Int) / (D:Int)=((UInt8.ofNat (M / D)).toNat:Int):=by
 rw [UInt8.toNat_ofNat',Nat.mod_eq_of_lt (by simpa using h)];simp
theorem bits_loop (l:List UInt8) (hl:l.length≤1000000) (m:Nat) (hm:m≤1000000) (X:Int) (hX:X=((8*m:Nat):Int)) (w0:World) (B:Nat) (A:Option Addr) (n c:Nat) (hn0:n=l.length) (own:w0.ownsRow B 5 1 (.slice A n c) n (bvals l)) (hB:B≤w0.heap.size)
  (Q:Exit→Act→World→Prop) (p0:Value)
  (hQ:∀ ⦃s1 s2 s4 s5 s6 s7 s8 s9 s0 s3 a0 a2 a3 a4 a5 a6 a7 a8 a9 b0 b1 b2 b3 b4 b5 b6 b7 b8 b9 c0 c1 c2 c3 c5 c6 c7 c8 c9 d0 d1 d2 d3 d4 d5 d6 d7 d8 d9 e0 e1 e2:Value⦄ (A':Option Addr) (n' c':Nat) (w2:World),n'=(l++bitsB m 8).length→w2.ownsRow B 5 1 (.slice A' n' c') n' (bvals (l++bitsB m 8))→Below B w0 w2→Q (.exit 2) {tmps:=#[p0,s1,s2,.slice A' n' c',s4,s5,s6,s7,s8,s9,s0,s3,a0,a2,a3,a4,a5,a6,a7,a8,a9,b0,b1,b2,b3,b4,b5,b6,b7,b8,b9,c0,c1,c2,c3,c5,c6,c7,c8,c9,d0,d1,d2,d3,d4,d5,d6,d7,d8,d9,e0,e1,e2],defers:= []} w2)
  (s1 s2 s5 s6 s7 s8 s9 s0 s3 a0 a2 a3 a4 a5 a6 a7 a8 a9 b0 b1 b2 b3 b4 b5 b6 b7 b9 c0 c1 c2 c3 c5 c6 c7 c8 c9 d0 d1 d2 d3 d4 d5 d6 d7 d8 d9 e0 e1 e2:Value):
  Code.wp Tryz.prog (.loop (loopAt Tryz.f159 1)) Q {tmps:=#[p0,s1,s2,.slice A n c,.int .u64 X,s5,s6,s7,s8,s9,s0,s3,a0,a2,a3,a4,a5,a6,a7,a8,a9,b0,b1,b2,b3,b4,b5,b6,b7,.int .i64 0,b9,c0,c1,c2,c3,c5,c6,c7,c8,c9,d0,d1,d2,d3,d4,d5,d6,d7,d8,d9,e0,e1,e2],defers:= []} w0:=by
 subst hX;have HQ:=ι hQ;clear hQ;obtain ⟨M,hM⟩:∃ M,M=8*m:=⟨_,rfl⟩
 rw [←hM];refine wp_loop_ghost_k (fun k a wr=>∀ Φ:Act→Prop,(∀ ⦃s1 s2 s5 s6 s7 s8 s9 s0 s3 a0 a2 a3 a4 a5 a6 a7 a8 a9 b0 b1 b2 b3 b4 b5 b6 b7 b9 c0 c1 c2 c3 c5 c6 c7 c8 c9 d0 d1 d2 d3 d4 d5 d6 d7 d8 d9 e0 e1 e2:Value⦄ (i:Nat) (Ai:Option Addr) (ni ci:Nat),(i+k=8∧ni=l.length+i∧wr.ownsRow B 5 1 (.slice Ai ni ci) ni (bvals (l++bitsB m i))∧Below B w0 wr)→Φ {tmps:=#[p0,s1,s2,.slice Ai ni ci,.int .u64 (M:Int),s5,s6,s7,s8,s9,s0,s3,a0,a2,a3,a4,a5,a6,a7,a8,a9,b0,b1,b2,b3,b4,b5,b6,b7,.int .i64 i,b9,c0,c1,c2,c3,c5,c6,c7,c8,c9,d0,d1,d2,d3,d4,d5,d6,d7,d8,d9,e0,e1,e2],defers:= []})→Φ a) (8) ?_ ?_
 ·refine fun Φ hΦ=>hΦ (0) (A) (n) (c) ?_;exact ⟨by omega,hn0,by simpa [bitsB] using own,Below.refl _ _⟩
 ·intro k1 a1 wr1 hI1 J1 K1 hJ1 hK1;refine hI1 (fun a=>Code.wp _ _ _ a _) ?_;clear hI1 a1;iterate 49 (intro _)
  intro i Ai ni ci hrel
  show Code.wp _ _ _ _ _
  conv=>arg 2; whnf
  obtain ⟨h1,hn,ho,hb⟩:=hrel;by_cases hi:i<8
  ·have hns:ni≤2000000:=by omega
   have hM1:(M:Int)≤8000000:=by omega
   have hM0:0≤(M:Int):=by omega
   have E:Hid (bitsB m (i+1)=bitsB m i++ [bb m i]∧bb m i=UInt8.ofNat (M / 2 ^ (56 - 8*i))):=ι ⟨bitsB_succ m i,by rw [hM]; rfl⟩;have H:=ι (And.intro h1 (And.intro hn (And.intro ho (And.intro hb hi))));have hwr:B≤wr1.heap.size:=Nat.le_trans hB hb.size;have hc:i=0∨i=1∨i=2∨i=3∨i=4∨i=5∨i=6∨i=7:=by omega
   clear h1 hn ho hb hM;rcases hc with rfl|rfl|rfl|rfl|rfl|rfl|rfl|rfl
   ·have X:Hid (Value.int .u8 ((M:Int) / 72057594037927936)= .int .u8 ((bb m 0).toNat:Int)):=ι (by
     rw [E.out.2];exact congrArg (Value.int .u8) (u8_div_small M 72057594037927936 (by omega)))
    go_wp2_with (at_builtin; refine wpList_append_new wr1 5 [.int .u8 ((M:Int) / 72057594037927936)] rfl _ _ 118 rfl B 1 1 _ info_byte Tryz.underlying118 rfl (by decide) (.slice Ai ni ci) ni _ rfl H.out.2.2.1 1 1 rfl rfl (by simp [Value.oneCell']) (by simp only [maxLen]; omega) (by omega) B w0 H.out.2.2.2.1 (Nat.le_refl _) hwr ?_; intro v4 w4 own4 hb4 hg4 ho4 hs4; obtain ⟨A4,c4,rfl,_,_,_⟩:=own_form own4; have G4:=ι (And.intro own4 hb4); clear own4 hb4 hg4 ho4 hs4)
    refine Handed.intro (8 - (0+1)) ?_ (hJ1 _ _ _ (fun Φ hΦ=>hΦ (0+1) (A4) (ni+1) (c4) ?_))
    ·have:=H.out
     show 8 - (0+1)<k1;omega
    ·obtain ⟨h1,hn,ho,hb,hj⟩:=H.out;have o4:=G4.out.1;rw [X.out] at o4;have e:bvals (l++bitsB m 0)++ [.int .u8 ((bb m 0).toNat:Int)]=bvals (l++bitsB m (0+1)):=by rw [E.out.1,←List.append_assoc,bvals_append (l++bitsB m 0) [bb m 0]]; rfl
     rw [e] at o4;exact ⟨by omega,by omega,o4,G4.out.2⟩
   ·have X:Hid (Value.int .u8 ((M:Int) / 281474976710656)= .int .u8 ((bb m 1).toNat:Int)):=ι (by
     rw [E.out.2];exact congrArg (Value.int .u8) (u8_div_small M 281474976710656 (by omega)))
    go_wp2_with (at_builtin; refine wpList_append_new wr1 5 [.int .u8 ((M:Int) / 281474976710656)] rfl _ _ 118 rfl B 1 1 _ info_byte Tryz.underlying118 rfl (by decide) (.slice Ai ni ci) ni _ rfl H.out.2.2.1 1 1 rfl rfl (by simp [Value.oneCell']) (by simp only [maxLen]; omega) (by omega) B w0 H.out.2.2.2.1 (Nat.le_refl _) hwr ?_; intro v4 w4 own4 hb4 hg4 ho4 hs4; obtain ⟨A4,c4,rfl,_,_,_⟩:=own_form own4; have G4:=ι (And.intro own4 hb4); clear own4 hb4 hg4 ho4 hs4)
    refine Handed.intro (8 - (1+1)) ?_ (hJ1 _ _ _ (fun Φ hΦ=>hΦ (1+1) (A4) (ni+1) (c4) ?_))
    ·have:=H.out
     show 8 - (1+1)<k1;omega
    ·obtain ⟨h1,hn,ho,hb,hj⟩:=H.out;have o4:=G4.out.1;rw [X.out] at o4;have e:bvals (l++bitsB m 1)++ [.int .u8 ((bb m 1).toNat:Int)]=bvals (l++bitsB m (1+1)):=by rw [E.out.1,←List.append_assoc,bvals_append (l++bitsB m 1) [bb m 1]]; rfl
     rw [e] at o4;exact ⟨by omega,by omega,o4,G4.out.2⟩
   ·have X:Hid (Value.int .u8 ((M:Int) / 1099511627776)= .int .u8 ((bb m 2).toNat:Int)):=ι (by
     rw [E.out.2];exact congrArg (Value.int .u8) (u8_div_small M 1099511627776 (by omega)))
    go_wp2_with (at_builtin; refine wpList_append_new wr1 5 [.int .u8 ((M:Int) / 1099511627776)] rfl _ _ 118 rfl B 1 1 _ info_byte Tryz.underlying118 rfl (by decide) (.slice Ai ni ci) ni _ rfl H.out.2.2.1 1 1 rfl rfl (by simp [Value.oneCell']) (by simp only [maxLen]; omega) (by omega) B w0 H.out.2.2.2.1 (Nat.le_refl _) hwr ?_; intro v4 w4 own4 hb4 hg4 ho4 hs4; obtain ⟨A4,c4,rfl,_,_,_⟩:=own_form own4; have G4:=ι (And.intro own4 hb4); clear own4 hb4 hg4 ho4 hs4)
    refine Handed.intro (8 - (2+1)) ?_ (hJ1 _ _ _ (fun Φ hΦ=>hΦ (2+1) (A4) (ni+1) (c4) ?_))
    ·have:=H.out
     show 8 - (2+1)<k1;omega
    ·obtain ⟨h1,hn,ho,hb,hj⟩:=H.out;have o4:=G4.out.1;rw [X.out] at o4;have e:bvals (l++bitsB m 2)++ [.int .u8 ((bb m 2).toNat:Int)]=bvals (l++bitsB m (2+1)):=by rw [E.out.1,←List.append_assoc,bvals_append (l++bitsB m 2) [bb m 2]]; rfl
     rw [e] at o4;exact ⟨by omega,by omega,o4,G4.out.2⟩
   ·have X:Hid (Value.int .u8 ((M:Int) / 4294967296)= .int .u8 ((bb m 3).toNat:Int)):=ι (by
     rw [E.out.2];exact congrArg (Value.int .u8) (u8_div_small M 4294967296 (by omega)))
    go_wp2_with (at_builtin; refine wpList_append_new wr1 5 [.int .u8 ((M:Int) / 4294967296)] rfl _ _ 118 rfl B 1 1 _ info_byte Tryz.underlying118 rfl (by decide) (.slice Ai ni ci) ni _ rfl H.out.2.2.1 1 1 rfl rfl (by simp [Value.oneCell']) (by simp only [maxLen]; omega) (by omega) B w0 H.out.2.2.2.1 (Nat.le_refl _) hwr ?_; intro v4 w4 own4 hb4 hg4 ho4 hs4; obtain ⟨A4,c4,rfl,_,_,_⟩:=own_form own4; have G4:=ι (And.intro own4 hb4); clear own4 hb4 hg4 ho4 hs4)
    refine Handed.intro (8 - (3+1)) ?_ (hJ1 _ _ _ (fun Φ hΦ=>hΦ (3+1) (A4) (ni+1) (c4) ?_))
    ·have:=H.out
     show 8 - (3+1)<k1;omega
    ·obtain ⟨h1,hn,ho,hb,hj⟩:=H.out;have o4:=G4.out.1;rw [X.out] at o4;have e:bvals (l++bitsB m 3)++ [.int .u8 ((bb m 3).toNat:Int)]=bvals (l++bitsB m (3+1)):=by rw [E.out.1,←List.append_assoc,bvals_append (l++bitsB m 3) [bb m 3]]; rfl
     rw [e] at o4;exact ⟨by omega,by omega,o4,G4.out.2⟩
   ·have X:Hid (Value.int .u8 ((M:Int) / 16777216)= .int .u8 ((bb m 4).toNat:Int)):=ι (by
     rw [E.out.2];exact congrArg (Value.int .u8) (u8_div_small M 16777216 (by omega)))
    go_wp2_with (at_builtin; refine wpList_append_new wr1 5 [.int .u8 ((M:Int) / 16777216)] rfl _ _ 118 rfl B 1 1 _ info_byte Tryz.underlying118 rfl (by decide) (.slice Ai ni ci) ni _ rfl H.out.2.2.1 1 1 rfl rfl (by simp [Value.oneCell']) (by simp only [maxLen]; omega) (by omega) B w0 H.out.2.2.2.1 (Nat.le_refl _) hwr ?_; intro v4 w4 own4 hb4 hg4 ho4 hs4; obtain ⟨A4,c4,rfl,_,_,_⟩:=own_form own4; have G4:=ι (And.intro own4 hb4); clear own4 hb4 hg4 ho4 hs4)
    refine Handed.intro (8 - (4+1)) ?_ (hJ1 _ _ _ (fun Φ hΦ=>hΦ (4+1) (A4) (ni+1) (c4) ?_))
    ·have:=H.out
     show 8 - (4+1)<k1;omega
    ·obtain ⟨h1,hn,ho,hb,hj⟩:=H.out;have o4:=G4.out.1;rw [X.out] at o4;have e:bvals (l++bitsB m 4)++ [.int .u8 ((bb m 4).toNat:Int)]=bvals (l++bitsB m (4+1)):=by rw [E.out.1,←List.append_assoc,bvals_append (l++bitsB m 4) [bb m 4]]; rfl
     rw [e] at o4;exact ⟨by omega,by omega,o4,G4.out.2⟩
   ·have X:Hid (Value.int .u8 ((M:Int) / 65536)= .int .u8 ((bb m 5).toNat:Int)):=ι (by
     rw [E.out.2];exact congrArg (Value.int .u8) (u8_div_small M 65536 (by omega)))
    go_wp2_with (at_builtin; refine wpList_append_new wr1 5 [.int .u8 ((M:Int) / 65536)] rfl _ _ 118 rfl B 1 1 _ info_byte Tryz.underlying118 rfl (by decide) (.slice Ai ni ci) ni _ rfl H.out.2.2.1 1 1 rfl rfl (by simp [Value.oneCell']) (by simp only [maxLen]; omega) (by omega) B w0 H.out.2.2.2.1 (Nat.le_refl _) hwr ?_; intro v4 w4 own4 hb4 hg4 ho4 hs4; obtain ⟨A4,c4,rfl,_,_,_⟩:=own_form own4; have G4:=ι (And.intro own4 hb4); clear own4 hb4 hg4 ho4 hs4)
    refine Handed.intro (8 - (5+1)) ?_ (hJ1 _ _ _ (fun Φ hΦ=>hΦ (5+1) (A4) (ni+1) (c4) ?_))
    ·have:=H.out
     show 8 - (5+1)<k1;omega
    ·obtain ⟨h1,hn,ho,hb,hj⟩:=H.out;have o4:=G4.out.1;rw [X.out] at o4;have e:bvals (l++bitsB m 5)++ [.int .u8 ((bb m 5).toNat:Int)]=bvals (l++bitsB m (5+1)):=by rw [E.out.1,←List.append_assoc,bvals_append (l++bitsB m 5) [bb m 5]]; rfl
     rw [e] at o4;exact ⟨by omega,by omega,o4,G4.out.2⟩
   ·have X:Hid (Value.int .u8 (IntKind.u8.wrap ((M:Int) / 256))= .int .u8 ((bb m 6).toNat:Int)):=ι (by
     rw [E.out.2];exact congrArg (Value.int .u8) ((by rw [←u8_wrap_nat]; simp)))
    go_wp2_with (at_builtin; refine wpList_append_new wr1 5 [.int .u8 (IntKind.u8.wrap ((M:Int) / 256))] rfl _ _ 118 rfl B 1 1 _ info_byte Tryz.underlying118 rfl (by decide) (.slice Ai ni ci) ni _ rfl H.out.2.2.1 1 1 rfl rfl (by simp [Value.oneCell']) (by simp only [maxLen]; omega) (by omega) B w0 H.out.2.2.2.1 (Nat.le_refl _) hwr ?_; intro v4 w4 own4 hb4 hg4 ho4 hs4; obtain ⟨A4,c4,rfl,_,_,_⟩:=own_form own4; have G4:=ι (And.intro own4 hb4); clear own4 hb4 hg4 ho4 hs4)
    refine Handed.intro (8 - (6+1)) ?_ (hJ1 _ _ _ (fun Φ hΦ=>hΦ (6+1) (A4) (ni+1) (c4) ?_))
    ·have:=H.out
     show 8 - (6+1)<k1;omega
    ·obtain ⟨h1,hn,ho,hb,hj⟩:=H.out;have o4:=G4.out.1;rw [X.out] at o4;have e:bvals (l++bitsB m 6)++ [.int .u8 ((bb m 6).toNat:Int)]=bvals (l++bitsB m (6+1)):=by rw [E.out.1,←List.append_assoc,bvals_append (l++bitsB m 6) [bb m 6]]; rfl
     rw [e] at o4;exact ⟨by omega,by omega,o4,G4.out.2⟩
   ·have X:Hid (Value.int .u8 (IntKind.u8.wrap (M:Int))= .int .u8 ((bb m 7).toNat:Int)):=ι (by
     rw [E.out.2];exact congrArg (Value.int .u8) ((by rw [←u8_wrap_nat]; simp)))
    go_wp2_with (at_builtin; refine wpList_append_new wr1 5 [.int .u8 (IntKind.u8.wrap (M:Int))] rfl _ _ 118 rfl B 1 1 _ info_byte Tryz.underlying118 rfl (by decide) (.slice Ai ni ci) ni _ rfl H.out.2.2.1 1 1 rfl rfl (by simp [Value.oneCell']) (by simp only [maxLen]; omega) (by omega) B w0 H.out.2.2.2.1 (Nat.le_refl _) hwr ?_; intro v4 w4 own4 hb4 hg4 ho4 hs4; obtain ⟨A4,c4,rfl,_,_,_⟩:=own_form own4; have G4:=ι (And.intro own4 hb4); clear own4 hb4 hg4 ho4 hs4)
    refine Handed.intro (8 - (7+1)) ?_ (hJ1 _ _ _ (fun Φ hΦ=>hΦ (7+1) (A4) (ni+1) (c4) ?_))
    ·have:=H.out
     show 8 - (7+1)<k1;omega
    ·obtain ⟨h1,hn,ho,hb,hj⟩:=H.out;have o4:=G4.out.1;rw [X.out] at o4;have e:bvals (l++bitsB m 7)++ [.int .u8 ((bb m 7).toNat:Int)]=bvals (l++bitsB m (7+1)):=by rw [E.out.1,←List.append_assoc,bvals_append (l++bitsB m 7) [bb m 7]]; rfl
     rw [e] at o4;exact ⟨by omega,by omega,o4,G4.out.2⟩
  ·have ei:i=8:=by omega
   subst ei;have H:=ι (And.intro hn (And.intro ho hb));clear h1 hn ho hb;go_wp2
   refine HQ.out _ _ _ _ ?_ H.out.2.1 H.out.2.2;rw [List.length_append,bitsB_length];exact H.out.1
def padW (rest:List UInt8) (m:Nat):List UInt8:=((rest++ [128])++List.replicate (padN rest.length) 0)++bitsB m 8
def hsumW (hs:List UInt32) (rest:List UInt8) (m:Nat):List UInt8:=tdW (hsW hs (padW rest m) ((padW rest m).length / 64)) 8
theorem sha_HSum (w:World) (g:Nat) (hs:List UInt32) (hh:hs.length=8) (rest:List UInt8) (hr:rest.length<64) (m:Nat) (hm:m≤1000000) (At:Option Addr) (ct:Nat) (hT:Tbl w)
  (hg:Blk w g 265 (hcells hs (.slice At rest.length ct) m)) (HR:Reads w w.heap.size 1 At rest.length (bvals rest)):
  Calls Tryz.prog 159 #[.pointer (some ⟨g,0,none⟩)] w fun e w'=>e= .returned (.string ⟨(hsumW hs rest m).toArray⟩)∧Below w.heap.size w w':=by
 obtain ⟨u0,u1,u2,u3,u4,u5,u6,u7,rfl⟩:=eight hh;have hb:Blk w g 265 #[.int .u32 (u0.toNat:Int),.int .u32 (u1.toNat:Int),.int .u32 (u2.toNat:Int),.int .u32 (u3.toNat:Int),.int .u32 (u4.toNat:Int),.int .u32 (u5.toNat:Int),.int .u32 (u6.toNat:Int),.int .u32 (u7.toNat:Int),.slice At rest.length ct,m]:=hg;have hlt:=hg.lt;obtain ⟨i0,hi0,hz0,hz1,hz2⟩:=info_parts info_byte;obtain ⟨⟨c0,c1,c2,c3,c4,c5,c6,c7,c8,c9⟩,⟨f0,f1,f2,f3,f4,f5,f6,f7,f8,f9⟩⟩:=hfacts hb;have HP:Hid (∀ z,z=hsW [u0,u1,u2,u3,u4,u5,u6,u7] (padW rest m) ((padW rest m).length / 64)→Ending.returned (.string ⟨(tdW z 8).toArray⟩)= .returned (.string ⟨(hsumW [u0,u1,u2,u3,u4,u5,u6,u7] rest m).toArray⟩)):=ι (fun z hz=>by rw [hz]; rfl);have HB:=ι hb;have HT:=ι hT;have hpos:=hT.pos;have R1:=ι HR;clear hg hb hT HR f0 f1 f2 f3 f4 f5 f6 f7 f8 f9;generalize Ending.returned (.string ⟨(hsumW [u0,u1,u2,u3,u4,u5,u6,u7] rest m).toArray⟩)=RR at HP ⊢;go_enter Tryz.func159,Tryz.ntmps159
 go_wp2_with (first|(at_builtin; refine wpList_append_any _ rfl _ _ 118 rfl w.heap.size 5 i0 (.int .u8 0) 1 1 Tryz.underlying118 hi0 hz0 hz1 hz2 rfl (by decide) (.slice none 0 0) 0 [] rfl (World.ownsRow_nil _ _ _ _) w.heap.size At rest.length ct (bvals rest) rfl R1.out (bvals_one _) (by simp only [maxLen]; omega) (by omega) (Nat.le_refl _) ?_; intro v3 w3 own3 hg3 _; have own3':w3.ownsRow w.heap.size 5 1 v3 rest.length (bvals rest):=(by simpa using own3); obtain ⟨A3,c3',rfl,_,_,_⟩:=own_form own3'; have hb3:Below w.heap.size w w3:=(Below.refl _ _).grown (row:=none) hg3 (Nat.le_refl _) (by simp); have G3:=ι (And.intro own3' hb3); clear own3 own3' hg3 hb3)|(at_builtin; refine wpList_append_new _ 5 [.int .u8 128] rfl _ _ 118 rfl w.heap.size 1 1 _ info_byte Tryz.underlying118 rfl (by decide) (.slice A3 rest.length c3') rest.length _ rfl G3.out.1 1 1 rfl rfl (by simp [Value.oneCell']) (by simp only [maxLen]; omega) (by omega) w.heap.size w G3.out.2 (Nat.le_refl _) G3.out.2.size ?_; intro v4 w4 own4 hb4 hg4 ho4 hs4; have own4':w4.ownsRow w.heap.size 5 1 v4 (rest.length+1) (bvals (rest++ [128])):=(by rw [bvals_append]; exact own4); obtain ⟨A4,c4',rfl,_,_,_⟩:=own_form own4'; have G4:=ι (And.intro own4' hb4); clear own4 own4' hb4 hg4 ho4 hs4))
 have hl128:(rest++ [128]).length=rest.length+1:=by simp
 refine pad_loop (rest++ [128]) (by omega) (by omega) w4 w.heap.size A4 _ c4' (by omega) G4.out.1 G4.out.2.size _ _ ?_ _ _ _ _ _ _ _ _ _ _ _ _ _ _ _ _ _ _ _ _ _ _ _ _ _ _ _ _ _ _ _ _ _ _ _ _ _ _ _ _ _ _ _ _ _ _ _ _ _ _ _;intro s1 s2 s4 s5 s6 s7 s8 s9 s10 s11 s12 s13 s14 s15 s16 s17 s18 s19 s20 s21 s22 s23 s24 s25 s26 s27 s28 s29 s30 s31 s32 s33 s34 s35 s36 s37 s38 s39 s40 s41 s42 s43 s44 s45 s46 s47 s48 s49 s50 s51 s52 A5 n5 c5' w5 hn5 own5 hb5;rw [hl128,Nat.add_sub_cancel] at hn5 own5;have hb5':=G4.out.2.trans hb5;obtain ⟨⟨c0,c1,c2,c3,c4,c5,c6,c7,c8,c9⟩,_⟩:=hfacts (HB.out.below hb5' hlt);have G5:=ι (And.intro own5 (And.intro hb5' hn5));have hn5b:n5≤200:=by
  rw [hn5];simp only [List.length_append,List.length_replicate,List.length_cons,List.length_nil]
  have:padN rest.length<64:=by unfold padN; omega
  omega
 clear own5 hb5 hb5' hn5 G3 G4 hl128;go_wp2_with fail
 have G5n:n5=(rest++ [128]++List.replicate (padN rest.length) 0).length:=G5.out.2.2;refine bits_loop (rest++ [128]++List.replicate (padN rest.length) 0) (by omega) m hm _ ?hX w5 w.heap.size A5 n5 c5' G5n G5.out.1 G5.out.2.1.size _ _ ?_ _ _ _ _ _ _ _ _ _ _ _ _ _ _ _ _ _ _ _ _ _ _ _ _ _ _ _ _ _ _ _ _ _ _ _ _ _ _ _ _ _ _ _ _ _ _ _ _ _
 case hX=>
  first|(simp; done)|(simp; omega)|omega
 intro s1 s2 s4 s5 s6 s7 s8 s9 s10 s11 s12 s13 s14 s15 s16 s17 s18 s19 s20 s21 s22 s23 s24 s25 s26 s27 s28 s29 s30 s31 s32 s33 s34 s35 s36 s37 s38 s39 s40 s41 s42 s43 s44 s45 s46 s47 s48 s49 s50 s51 s52 A6 n6 c6' w6 hn6 own6 hb6;have hb6':=G5.out.2.1.trans hb6;obtain ⟨⟨c0,c1,c2,c3,c4,c5,c6,c7,c8,c9⟩,_⟩:=hfacts (HB.out.below hb6' hlt);have hpad:n6=(padW rest m).length:=hn6;have own6':w6.ownsRow w.heap.size 5 1 (.slice A6 n6 c6') n6 (bvals (padW rest m)):=own6;have hn6b:(padW rest m).length≤1000000:=by
  rw [←hpad,hn6,List.length_append,←G5n,bitsB_length];omega
 clear own6 hn6 hb6 G5 G5n hn5b;generalize padW rest m=E at *;subst hpad;obtain ⟨_,_,e6,hr6,hc6,_⟩:=own_form own6';injection e6 with e61 _ e62
 subst e61;subst e62;have HC:Hid (Calls Tryz.prog 186 #[.agg #[.int .u32 (u0.toNat:Int),.int .u32 (u1.toNat:Int),.int .u32 (u2.toNat:Int),.int .u32 (u3.toNat:Int),.int .u32 (u4.toNat:Int),.int .u32 (u5.toNat:Int),.int .u32 (u6.toNat:Int),.int .u32 (u7.toNat:Int)],.slice A6 E.length c6'] w6 (BlocksEnd w6 [u0,u1,u2,u3,u4,u5,u6,u7] E)):=ι (sha_blocks _ rfl E hn6b A6 c6' hc6 w6 (HT.out.below hb6' hpos) hr6);have B6:=ι hb6';obtain ⟨z0,z1,z2,z3,z4,z5,z6,z7,hz⟩:=eight (hsW_length [u0,u1,u2,u3,u4,u5,u6,u7] E rfl (E.length / 64));have HZ:Hid ((wvs (hsW [u0,u1,u2,u3,u4,u5,u6,u7] E (E.length / 64))).toArray=#[.int .u32 (z0.toNat:Int),.int .u32 (z1.toNat:Int),.int .u32 (z2.toNat:Int),.int .u32 (z3.toNat:Int),.int .u32 (z4.toNat:Int),.int .u32 (z5.toNat:Int),.int .u32 (z6.toNat:Int),.int .u32 (z7.toNat:Int)]):=ι (by rw [hz]; rfl);have HR2:=ι (HP.out _ hz.symm);have HTD:Hid (∀ w7,Calls Tryz.prog 187 #[.agg #[.int .u32 (z0.toNat:Int),.int .u32 (z1.toNat:Int),.int .u32 (z2.toNat:Int),.int .u32 (z3.toNat:Int),.int .u32 (z4.toNat:Int),.int .u32 (z5.toNat:Int),.int .u32 (z6.toNat:Int),.int .u32 (z7.toNat:Int)]] w7 fun e w'=>e= .returned (.string ⟨(tdW [z0,z1,z2,z3,z4,z5,z6,z7] 8).toArray⟩)∧Below w7.heap.size w7 w'):=ι (fun w7=>sha_told [z0,z1,z2,z3,z4,z5,z6,z7] rfl w7);generalize tdW [z0,z1,z2,z3,z4,z5,z6,z7] 8=S at *;clear hz HP hb6' own6' hr6 hc6 HB R1 HT;go_wp2_with fail
 refine HC.out.mono ?_;unfold BlocksEnd;rw [HZ.out];rintro e w7 ⟨v7,rfl,own7,hb7⟩;obtain ⟨A7,c7',rfl,_,_,_⟩:=own_form own7;have B7:=ι (B6.out.trans (hb7.mono B6.out.size));clear own7 hb7;go_wp2_with fail
 refine (HTD.out _).mono ?_;rintro e w8 ⟨rfl,hb8⟩;have B8:Hid (Below w.heap.size w w8):=ι ((B7.out.alloc B7.out.size _).trans (hb8.mono (by rw [World.size_alloc]; have:=B7.out.size; omega)));clear hb8;go_wp2
 go_ret
 exact ⟨HR2.out,B8.out⟩
def shaW (l:List UInt8):List UInt8:=hsumW (hsW firstH l (l.length / 64)) (l.drop (64*(l.length / 64))) l.length
theorem shaW_length (l:List UInt8):(shaW l).length=32:=by
 unfold shaW hsumW;rw [tdW_length]
theorem sha_Sum (w:World) (l:List UInt8) (hl:l.length≤1000000) (hT:Tbl w):
  Calls Tryz.prog 125 #[l] w fun e w'=>e= .returned (.string ⟨(shaW l).toArray⟩)∧Below w.heap.size w w':=by
 have hpos:=hT.pos;have HT:=ι hT;have HS:Hid (shaW l=hsumW (hsW firstH l (l.length / 64)) (l.drop (64*(l.length / 64))) l.length):=ι rfl;generalize shaW l=S at *;clear hT;go_enter Tryz.func125,Tryz.ntmps125
 go_wp2_with fail
 refine (sha_New w).mono ?_;rintro e w1 ⟨g,rfl,hg,hb,h1⟩;go_wp2_with fail
 refine (sha_Write w1 g l hl (HT.out.next h1) hb (by omega)).mono ?_;rintro e w2 ⟨rfl,A,c,hb2,own2,hg2⟩;have B2:Below w.heap.size w w2:=h1.grown hg2 h1.size (by intro k e; injection e with e; omega);obtain ⟨_,_,e6,hr2,hc2,_⟩:=own_form own2;injection e6 with e61 _ e62
 subst e61;subst e62;have hrl:(l.drop (64*(l.length / 64))).length<64:=by rw [List.length_drop]; omega
 have K2:=ι (And.intro hb2 (And.intro hr2 (And.intro B2 hrl)));clear hb2 own2 hg2 hr2 B2 hb h1 hrl;go_wp2_with fail
 refine (sha_HSum w2 g _ (hsW_length firstH l rfl _) _ K2.out.2.2.2 l.length hl A c (HT.out.next K2.out.2.2.1) K2.out.1 K2.out.2.1).mono ?_;rintro e w3 ⟨rfl,hb3⟩;rw [←HS.out];have B3:=ι (K2.out.2.2.1.nxt hb3);clear hb3;go_wp2
 go_ret
 exact ⟨rfl,B3.out⟩
theorem digest_Sum (w:World) (tag:Nat) (h1:1≤tag) (h2:tag≤255) (l:List UInt8) (hl:l.length≤999999) (hT:Tbl w):
  Calls Tryz.prog 85 #[tag,l] w fun e w'=>e= .returned (.tuple #[.string ⟨(shaW (UInt8.ofNat tag::l)).toArray⟩,ζ])∧Below w.heap.size w w':=by
 have g1:((tag:Int)<1)=False:=by simp; omega
 have g2:((255:Int)<tag)=False:=by simp; omega
 have g3:(tag:Int)<256:=by omega
 have g4:(0:Int)≤tag:=by omega
 have hcv:=conv1 w (tag:Int) g4 g3;have HT:=ι hT;have hpos:=hT.pos;have HC:=ι (fun w' hT'=>sha_Sum w' (UInt8.ofNat tag::l) (by rw [List.length_cons]; omega) hT');clear hT;generalize shaW (UInt8.ofNat tag::l)=S at *;go_enter Tryz.func85,Tryz.ntmps85
 go_wp2_with fail
 rw [show ((⟨#[UInt8.ofNat tag]⟩:ByteArray)++⟨l.toArray⟩)=⟨(UInt8.ofNat tag::l).toArray⟩ from by rw [ByteArray.mk_append_mk]; congr 1];refine (HC.out _ (HT.out.next (by go_grown))).mono ?_;rintro e w1 ⟨rfl,hb1⟩;have B1:Hid (Below w.heap.size w w1):=ι ((((Below.refl _ _).alloc (Nat.le_refl _) _)).trans (hb1.mono (by rw [World.size_alloc]; omega)));clear hb1 hcv;go_wp2
 go_ret2
 exact ⟨rfl,B1.out⟩
def beB (n:Nat):List UInt8:=if h:n=0 then [] else beB (n / 256)++ [UInt8.ofNat n]
termination_by n
theorem beB_zero:beB 0= []:=by rw [beB]; simp
theorem beB_pos {n:Nat} (h:0<n):beB n=beB (n / 256)++ [UInt8.ofNat n]:=by
 rw [beB,dif_neg (by omega)]
def numW (n:Nat):List UInt8:=UInt8.ofNat (beB n).length::beB n
theorem rep_set (k:Nat) (x:UInt8) (D:List UInt8):(List.replicate (k+1) (0:UInt8)++D).set k x=List.replicate k 0++(x::D):=by
 rw [List.replicate_succ',List.append_assoc,List.set_append_right _ _ (by simp)];simp
theorem num_loop (n:Nat) (hn:n<9223372036854775808) (w0:World) (gb:Nat) (hB:Blk w0 gb 263 (bvals (List.replicate 8 0)).toArray)
  (Q:Exit→Act→World→Prop)
  (hQ:∀ ⦃s0 s1 s2 s5 s6 s7 s8 s9 s3 s4 a0 a2 a3 a4 a5 a6 a7 a8 a9 b0 b1 b2:Value⦄ (k:Nat) (w2:World),k+(beB n).length=8→Blk w2 gb 263 (bvals (List.replicate k 0++beB n)).toArray→w0.grownBy w2 (some gb)→w2.heap.size=w0.heap.size→Q (.exit 0) {tmps:=#[s0,s1,s2,.pointer (some ⟨gb,0,none⟩),.int .i64 (k:Int),s5,s6,s7,s8,s9,s3,s4,a0,a2,a3,a4,a5,a6,a7,a8,a9,b0,b1,b2],defers:= []} w2)
  (s1 s2 s5 s6 s7 s8 s9 s3 s4 a0 a2 a3 a4 a5 a6 a7 a8 a9 b0 b1 b2:Value):
  Code.wp Tryz.prog (.loop (loopAt Tryz.f156 0)) Q {tmps:=#[.int .i64 (n:Int),s1,s2,.pointer (some ⟨gb,0,none⟩),.int .i64 8,s5,s6,s7,s8,s9,s3,s4,a0,a2,a3,a4,a5,a6,a7,a8,a9,b0,b1,b2],defers:= []} w0:=by
 have HQ:=ι hQ;clear hQ;refine wp_loop_ghost_k (fun k a wr=>∀ Φ:Act→Prop,(∀ ⦃s1 s2 s5 s6 s7 s8 s9 s3 s4 a0 a2 a3 a4 a5 a6 a7 a8 a9 b0 b1 b2:Value⦄ (m:Nat) (k1':Nat) (D:List UInt8),(k=k1'∧k1'+D.length=8∧m<256 ^ k1'∧m<9223372036854775808∧beB n=beB m++D∧Blk wr gb 263 (bvals (List.replicate k1' 0++D)).toArray∧w0.grownBy wr (some gb)∧wr.heap.size=w0.heap.size)→Φ {tmps:=#[.int .i64 (m:Int),s1,s2,.pointer (some ⟨gb,0,none⟩),.int .i64 (k1':Int),s5,s6,s7,s8,s9,s3,s4,a0,a2,a3,a4,a5,a6,a7,a8,a9,b0,b1,b2],defers:= []})→Φ a) (8) ?_ ?_
 ·refine fun Φ hΦ=>hΦ (n) (8) ([]) ?_;exact ⟨rfl,rfl,by omega,hn,by simp,by simpa using hB,World.grownBy.refl _ _,rfl⟩
 ·intro k1 a1 wr1 hI1 J1 K1 hJ1 hK1;refine hI1 (fun a=>Code.wp _ _ _ a _) ?_;clear hI1 a1;iterate 21 (intro _)
  intro m k2 D hrel
  show Code.wp _ _ _ _ _
  conv=>arg 2; whnf
  obtain ⟨h1,h2,h3,h4,h5,hw,hg,hs⟩:=hrel;by_cases hm:0<m
  ·obtain ⟨k,rfl⟩:∃ k,k2=k+1:=⟨k2 - 1,by
    rcases k2 with _|k
    ·simp at h3; omega
    ·rfl⟩
   have hm1:(0:Int)<m:=by omega
   have hm2:(m:Int)≤9223372036854775807:=by omega
   have hk:k<8:=by omega
   have hk1:(k:Int)<8:=by omega
   have c0:wr1.cell? ⟨gb,k,none⟩=some (.int .u8 (((List.replicate (k+1) 0++D).getD k 0).toNat:Int)):=(hw.cell _).trans (bvals_at (by simp; omega));have f0:wr1.frozen? ⟨gb,k,none⟩=false:=hw.frozen _;have e8:=u8_wrap_nat m;have HE:=ι (beB_pos hm);have H:=ι (And.intro h1 (And.intro h2 (And.intro h3 (And.intro h4 (And.intro h5 (And.intro hw (And.intro hg hs)))))));generalize (List.replicate (k+1) 0++D).getD k 0=y at *;clear h1 h2 h3 h4 h5 hw hg hs;go_wp2
   refine Handed.intro (k) ?_ (hJ1 _ _ _ (fun Φ hΦ=>hΦ (m / 256) (k) (UInt8.ofNat m::D) ?_))
   ·have:=H.out.1
    show k<k1;omega
   ·obtain ⟨h1,h2,h3,h4,h5,hw,hg,hs⟩:=H.out;have hw2:=hw.set_ k (.int .u8 ((UInt8.ofNat m).toNat:Int));rw [bvals_set,rep_set] at hw2;refine ⟨rfl,by rw [List.length_cons]; omega,?_,by omega,?_,hw2,grown_set0 hg _ _,by simp [hs]⟩
    ·rw [Nat.pow_succ] at h3;exact Nat.div_lt_of_lt_mul (by rw [Nat.mul_comm]; exact h3)
    ·rw [h5,HE.out,List.append_assoc];rfl
  ·have e:m=0:=by omega
   subst e;rw [beB_zero,List.nil_append] at h5;rw [←h5] at hw h2;have H:=ι (And.intro h2 (And.intro hw (And.intro hg hs)));clear h1 h2 h3 h4 h5 hw hg hs;go_wp2
   exact HQ.out _ _ H.out.1 H.out.2.1 H.out.2.2.1 H.out.2.2.2
end
end Go.Proofs.YtnelhjfjkkdoaaaGreatDoor