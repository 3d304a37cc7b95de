import Derived.Test.YtnelhjfjkkdoaaaGreatDoorJ11
set_option linter.unusedSimpArgs false
set_option linter.unusedVariables false
set_option maxHeartbeats 4000000
set_option maxRecDepth 100000
namespace Go.Proofs.YtnelhjfjkkdoaaaGreatDoor
section
open Go.RowKit Go.Instr
attribute [local go_sem] ba_get ByteArray.mk_append_mk
attribute [local go_sem ↓] Go.wp_at_zero Go.wp_at_succ
namespace Trie
theorem Good.put {t:T} (h:Good t) {key value:List UInt8} (hk:keyedW key=true) (hv:value≠ []) (hl:value.length≤32):Good (put t (Nib.of key) value):=by
 obtain ⟨k8,k0⟩:=keyed_len hk;have hof:=Nib.of_length key;obtain ⟨h1,h2⟩:=small_put h.wf h.small (Nib.fit_of key) (by omega) hv hl;refine ⟨h1,h2,fun q hq hne=> ?_⟩;rw [(put_spec t _ value h.wf (Nib.fit_of key) hv).2.1 q hq] at hne
 split at hne
 ·rename_i e; subst e;refine ⟨by omega,fun e=> ?_⟩
  have:=congrArg List.length e
  rw [hof] at this;simp at this
  exact k0 (List.eq_nil_of_length_eq_zero (by omega))
 ·exact h.even q hq hne
end Trie
def TPutEnd (w:World) (t:Trie.T) (code:Nat) (e:Ending) (w':World):Prop:=
 ∃ v',e= .returned (.tuple #[v',.int .i64 (code:Int)])∧Below w.heap.size w w'∧(code=0→TrieP w' t v')∧(code≠0→v'= .pointer none)
theorem z_12 {P:Prop} (h:P:=by
 have HNN:=ι (Trie.put_nn t (Nib.of key) value);have HGd:=ι (hg.put hkey hv0 h32);have HLen:Hid (∀ W,Below w.heap.size w W→Calls Tryz.prog 55 #[.pointer (some ⟨b,0,none⟩)] W fun e w'=>e= .returned (.int .i64 (Trie.count t:Int))∧W=w'):=ι (fun W hW=>trie_Len W t _ (TrieP.next ⟨hg,b,_,rfl,hbk,hk⟩ hW));have HR:Hid (Trie.putCode key value=0):=ι (by simp [Trie.putCode,hkey,ne2,h32]);have hcI:((1024:Int)≤(Trie.count t:Int))=False:=by simp; omega
 clear hk hg hbk hT hc hkey hv0 h32;go_enter Tryz.func13,Tryz.ntmps13
 go_upto_region 6 with (first|(go_at_call 53; refine (HKy.out _).mono ?_; rintro e w1 ⟨rfl,rfl⟩)|(go_at_call 54; refine (HOf.out _).mono ?_; rintro e w2 ⟨rfl,hb2⟩))
 have HB2:=ι hb2;have c2:=(hb2.cell (p:=⟨b,0,none⟩) HLt.out).trans c0;clear hb2 c0;go_wp2_with (first|(go_at_call 55; refine (HLen.out _ HB2.out).mono ?_; rintro e w3 ⟨rfl,rfl⟩)|(go_at_call 57; refine (HPut.out _ HB2.out).mono ?_; rintro e w3 ⟨x,rfl,hk,hb⟩; obtain ⟨b3,rfl⟩:=hk.ptr HNN.out))
 have hw4:Below w3.heap.size w3 (w3.alloc (.cells #[.pointer (some ⟨b3,0,none⟩)] 115)):=by go_grown
 exact HP.out 0 _ _ HR.out (HB2.out.nxt (hb.nxt hw4)) (fun _=>⟨HGd.out,_,_,rfl,Blk.new _ _ _,hk.next hw4⟩) (fun h=>absurd rfl h)):P:=h
theorem trie_Put (w:World) (t:Trie.T) (v:Value) (h:TrieP w t v) (hc:Trie.count t<1024) (hT:Tbl w) (key value:List UInt8) (hl:key.length≤9223372036854775807) (hvl:value.length≤9223372036854775807):
  Calls Tryz.prog 13 #[v,.string ⟨key.toArray⟩,.string ⟨value.toArray⟩] w (TPutEnd w (Trie.put t (Nib.of key) value) (Trie.putCode key value)):=by
 obtain ⟨hg,b,x,rfl,hbk,hk⟩:=h;have HP:Hid (∀ c v' w',Trie.putCode key value=c→Below w.heap.size w w'→(c=0→TrieP w' (Trie.put t (Nib.of key) value) v')→(c≠0→v'= .pointer none)→TPutEnd w (Trie.put t (Nib.of key) value) (Trie.putCode key value) (.returned (.tuple #[v',.int .i64 (c:Int)])) w'):=ι (fun c v' w' h1 h2 h3 h4=>⟨v',by rw [h1],h2,by rw [h1]; exact h3,by rw [h1]; exact h4⟩);have c0:w.cell? ⟨b,0,none⟩=some x:=hbk.cell 0;have HLt:=ι hbk.lt;generalize TPutEnd w (Trie.put t (Nib.of key) value) (Trie.putCode key value)=P at HP ⊢;cases hkey:Trie.keyedW key with
 |false=>
  have HKy:Hid (∀ W,Calls Tryz.prog 53 #[key] W fun e w'=>e= .returned (.bool false)∧W=w'):=ι (fun W=>by have:=trie_keyed key hl W; rwa [hkey] at this);have HR:Hid (Trie.putCode key value=1):=ι (by simp [Trie.putCode,hkey]);clear hbk hk hg hkey hT;go_enter Tryz.func13,Tryz.ntmps13
  go_wp2_with (go_at_call 53; refine (HKy.out _).mono ?_; rintro e w1 ⟨rfl,rfl⟩)
  exact HP.out 1 _ _ HR.out (Below.refl _ _) (fun h=>by simp at h) (fun _=>rfl)
 |true=>
 have HKy:Hid (∀ W,Calls Tryz.prog 53 #[key] W fun e w'=>e= .returned (.bool true)∧W=w'):=ι (fun W=>by have:=trie_keyed key hl W; rwa [hkey] at this);have hk8:=(Trie.keyed_len hkey).1;have HOf:Hid (∀ W,Calls Tryz.prog 54 #[key] W fun e w'=>e= .returned (.string ⟨(Nib.of key).toArray⟩)∧Below W.heap.size W w'):=ι (fun W=>nib_Of key W (by omega));by_cases hv0:value= []
 ·subst hv0;have HR:Hid (Trie.putCode key []=2):=ι (by simp [Trie.putCode,hkey]);clear hbk hk hg hkey hT;go_enter Tryz.func13,Tryz.ntmps13
  go_wp2_with (go_at_call 53; refine (HKy.out _).mono ?_; rintro e w1 ⟨rfl,rfl⟩)
  exact HP.out 2 _ _ HR.out (Below.refl _ _) (fun h=>by simp at h) (fun _=>rfl)
 have ne1:(value.toArray=#[])=False:=by simp [hv0]
 have ne2:value.isEmpty=false:=by simp [hv0]
 by_cases h32:value.length≤32
 ·have h32':(32<(value.length:Int))=False:=by simp; omega
  rcases hk.form with ⟨_,rfl⟩|⟨b2,_,_,rfl,_⟩
  ·skip
   have HPut:Hid (∀ W,Below w.heap.size w W→Calls Tryz.prog 57 #[(.pointer none),.string ⟨(Nib.of key).toArray⟩,.string ⟨value.toArray⟩] W (KnotEnd W (Trie.put t (Nib.of key) value))):=ι (fun W hW=>trie_put t (Nib.of key) value _ W hg.wf hg.small (by omega) (Nib.fit_of key) (by rw [Nib.of_length]; omega) hv0 (by omega) (hT.next hW) (hk.next hW));exact z_12
  ·skip
   have HPut:Hid (∀ W,Below w.heap.size w W→Calls Tryz.prog 57 #[(.pointer (some ⟨b2,0,none⟩)),.string ⟨(Nib.of key).toArray⟩,.string ⟨value.toArray⟩] W (KnotEnd W (Trie.put t (Nib.of key) value))):=ι (fun W hW=>trie_put t (Nib.of key) value _ W hg.wf hg.small (by omega) (Nib.fit_of key) (by rw [Nib.of_length]; omega) hv0 (by omega) (hT.next hW) (hk.next hW));exact z_12
 ·have h32':32<(value.length:Int):=by omega
  have HR:Hid (Trie.putCode key value=2):=ι (by simp [Trie.putCode,hkey,ne2]; omega);clear hbk hk hg hkey hT;go_enter Tryz.func13,Tryz.ntmps13
  go_wp2_with (go_at_call 53; refine (HKy.out _).mono ?_; rintro e w1 ⟨rfl,rfl⟩)
  exact HP.out 2 _ _ HR.out (Below.refl _ _) (fun h=>by simp at h) (fun _=>rfl)
end
section
open Go.RowKit Go.Instr
attribute [local go_sem] ba_get ByteArray.mk_append_mk
theorem encW_len {c q:Int} {f:List UInt8} (h:rcOk c f q):(encW c f q).1≠ []∧(encW c f q).1.length≤32:=by
 obtain ⟨h1,h2,h3,h4,h5,h6⟩:=id h;have a1:=beB_len 2 c.toNat (by omega);have a2:=beB_len 1 f.length (by omega);have a3:=beB_len 6 q.toNat (by omega);rw [encW,if_pos h];refine ⟨by simp [numW],?_⟩;simp only [numW,textW,List.length_append,List.length_cons];omega
def rcells (l:List (Int × List UInt8 × Int)):List Value:=l.flatMap fun x=> [x.1,x.2.1,x.2.2]
theorem rcells_at {l:List (Int × List UInt8 × Int)} {i:Nat} (h:i<l.length):(rcells l)[3*i]?=some (.int .i64 l[i].1)∧(rcells l)[3*i+1]?=some (.string ⟨l[i].2.1.toArray⟩)∧(rcells l)[3*i+2]?=some (.int .i64 l[i].2.2):=by
 induction l generalizing i with
 |nil=>simp at h
 |cons a l ih=>
  rcases i with _|i
  ·simp [rcells]
  ·have:=ih (show i<l.length by simpa using h)
   rw [show 3*(i+1)=3*i+1+1+1 by omega];simpa [rcells] using this
theorem rcells_length (l:List (Int × List UInt8 × Int)):(rcells l).length=3*l.length:=by
 induction l with
 |nil=>rfl
 |cons a l ih=>
  rw [show rcells (a::l)= .int .i64 a.1:: .string ⟨a.2.1.toArray⟩:: .int .i64 a.2.2::rcells l from rfl,List.length_cons,List.length_cons,List.length_cons,ih,List.length_cons]; omega
def treeW:Trie.T→Nat→List (Int × List UInt8 × Int)→Trie.T × Nat
 |t,k,[]=>(t,0)
 |t,k,x::l=>if rcOk x.1 x.2.1 x.2.2 then treeW (Trie.put t (Nib.of [UInt8.ofNat k]) (encW x.1 x.2.1 x.2.2).1) (k+1) l else (.nil,3)
theorem put_receipt {c q:Int} {f:List UInt8} (h:rcOk c f q) (k:UInt8):Trie.putCode [k] (encW c f q).1=0:=by
 have:=encW_len h
 unfold Trie.putCode Trie.keyedW;rw [if_pos (by simp),if_neg];simp
 exact this
theorem receipt_key (k:Nat) (hk:k<256) (w:World):
  Calls Tryz.prog 76 #[k] w fun e w'=>e= .returned (.string ⟨#[UInt8.ofNat k]⟩)∧Below w.heap.size w w':=by
 have HP:Hid (∀ w',Below w.heap.size w w'→(fun e w'=>e=Ending.returned (.string ⟨#[UInt8.ofNat k]⟩)∧Below w.heap.size w w') (Ending.returned (.string ⟨#[UInt8.ofNat k]⟩)) w'):=ι (fun w' hb=>⟨rfl,hb⟩);generalize (fun e w'=>e=Ending.returned (.string ⟨#[UInt8.ofNat k]⟩)∧Below w.heap.size w w')=P at HP ⊢;have cv:=conv1d w (k:Int) (by omega) (by omega);have cv2:=conv1 w (k:Int) (by omega) (by omega);rw [show UInt8.ofNat ((k:Int)).toNat=UInt8.ofNat k by congr 1] at cv cv2;have ew:(k:Int) % 256=(k:Int):=by omega
 rw [←ew] at cv cv2;clear ew hk;have HG:Hid (∀ f,Below w.heap.size w (w.alloc (.cells f 5))):=ι (fun f=>by go_grown);go_enter Tryz.func76,Tryz.ntmps76
 go_wp2
 exact HP.out _ (HG.out _)
theorem receipt_tree (l:List (Int × List UInt8 × Int)) (hl:l.length≤8) (hs:∀ x∈l,x.2.1.length≤9223372036854775807) (w:World) (hT:Tbl w) (A:Option Addr) (c:Nat) (HR:Reads w w.heap.size 3 A l.length (rcells l)):
  Calls Tryz.prog 75 #[.slice A l.length c] w (TPutEnd w (treeW .nil 0 l).1 (treeW .nil 0 l).2):=by
 have HP:Hid (∀ (t':Trie.T) (c:Nat) v' w',treeW .nil 0 l=(t',c)→Below w.heap.size w w'→(c=0→TrieP w' t' v')→(c≠0→v'= .pointer none)→TPutEnd w (treeW .nil 0 l).1 (treeW .nil 0 l).2 (.returned (.tuple #[v',.int .i64 (c:Int)])) w'):=ι (fun t' c v' w' h1 h2 h3 h4=>⟨v',by rw [h1],h2,by rw [h1]; exact h3,by rw [h1]; exact h4⟩);generalize TPutEnd w (treeW .nil 0 l).1 (treeW .nil 0 l).2=P at HP ⊢;have HRR:=ι HR;have HS:=ι hs;have HTb:=ι hT;have HL:=ι hl;have hl1:((8:Int)<(l.length:Int))=False:=by simp; omega
 clear HR hs hT;go_enter Tryz.func75,Tryz.ntmps75
 go_wp2_with (go_at_call 11; refine (trie_New _).mono ?_; rintro e w1 ⟨v0,rfl,hk0,hb0⟩; have H0:=ι (And.intro hk0 hb0); clear hk0 hb0)
 refine wp_loop_ghost_k (fun k a wr=>∀ Φ:Act→Prop,(∀ ⦃s1 s2 s3 s5 s6 s7 s8 s9 s0 s4 a0 a2 a3 a4 a5 a6 a7 a8 a9 b0 b1 b2 b3 b4 b5 b6 b7 b8 b9 c0 c1 c2 c3 c4 c5 c6 c7:Value⦄ (i:Nat) (t:Trie.T) (v:Value),(i+k=l.length∧treeW .nil 0 l=treeW t i (l.drop i)∧Trie.count t≤i∧TrieP wr t v∧Below w.heap.size w wr)→Φ {tmps:=#[.slice A l.length c,s1,s2,s3,v,s5,s6,s7,s8,s9,s0,s4,a0,.int .i64 l.length,.int .i64 (i:Int),a2,a3,a4,a5,a6,a7,a8,a9,b0,b1,b2,b3,b4,b5,b6,b7,b8,b9,c0,c1,c2,c3,c4,c5,c6,c7],defers:= []})→Φ a) (l.length) ?_ ?_
 ·refine fun Φ hΦ=>hΦ (0) (.nil) (v0) ?_;exact ⟨by omega,rfl,by simp [Trie.count],H0.out.1,H0.out.2⟩
 ·intro k1 a1 wr1 hI1 J1 K1 hJ1 hK1;refine hI1 (fun a=>Code.wp _ _ _ a _) ?_;clear hI1 a1;iterate 37 (intro _)
  intro i t v hrel
  show Code.wp _ _ _ _ _;obtain ⟨h1,h2,h3,hk,hb⟩:=hrel;by_cases hi:i<l.length
  ·obtain ⟨ad,off,rfl,hbl,hcell⟩:=HRR.out.form (by omega) (by omega);have ic:=rcells_at hi;have hil:=rcells_length l;have e0:(rcells l)[3*i]'(by omega)= .int .i64 l[i].1:=by
    have:=ic.1; rw [List.getElem?_eq_getElem (by omega)] at this; exact Option.some.inj this
   have e1:(rcells l)[3*i+1]'(by omega)= .string ⟨l[i].2.1.toArray⟩:=by
    have:=ic.2.1; rw [List.getElem?_eq_getElem (by omega)] at this; exact Option.some.inj this
   have e2:(rcells l)[3*i+2]'(by omega)= .int .i64 l[i].2.2:=by
    have:=ic.2.2; rw [List.getElem?_eq_getElem (by omega)] at this; exact Option.some.inj this
   have q0:=hcell (3*i) (by omega);have q1:=hcell (3*i+1) (by omega);have q2:=hcell (3*i+2) (by omega);rw [e0] at q0;rw [e1] at q1;rw [e2] at q2;have r0:wr1.cell? ⟨ad,off+i*3,none⟩=some (.int .i64 l[i].1):=by rw [show i*3=3*i by omega]; exact (hb.cell (p:=⟨ad,off+3*i,none⟩) hbl).trans q0
   have r1:wr1.cell? ⟨ad,off+i*3+1,none⟩=some (.string ⟨l[i].2.1.toArray⟩):=by rw [show off+i*3+1=off+(3*i+1) by omega]; exact (hb.cell (p:=⟨ad,off+(3*i+1),none⟩) hbl).trans q1
   have r2:wr1.cell? ⟨ad,off+i*3+2,none⟩=some (.int .i64 l[i].2.2):=by rw [show off+i*3+2=off+(3*i+2) by omega]; exact (hb.cell (p:=⟨ad,off+(3*i+2),none⟩) hbl).trans q2
   have hi1:(i:Int)<l.length:=by omega
   have hi0:(0:Int)≤i:=by omega
   have hd:l.drop i=l[i]::l.drop (i+1):=List.drop_eq_getElem_cons hi;have hlen:=HS.out _ (List.getElem_mem hi);have HI:=ι (And.intro h1 (And.intro h2 (And.intro h3 (And.intro hk (And.intro hb hd)))));have HI8:=ι (show i<8 from Nat.lt_of_lt_of_le hi HL.out);clear ic hil e0 e1 e2 q0 q1 q2 h1 h2 h3 hk hb hcell hd;generalize l[i]=x at *;obtain ⟨rc,rf,rq⟩:=x;have HEnc:Hid (∀ W,Calls Tryz.prog 117 #[.agg #[rc,rf,rq]] W (REncEnd W (encW rc rf rq))):=ι (fun W=>receipt_Encode rc rf rq hlen W);have HKey:Hid (∀ W,Calls Tryz.prog 76 #[i] W fun e w'=>e= .returned (.string ⟨#[UInt8.ofNat i]⟩)∧Below W.heap.size W w'):=ι (fun W=>receipt_key i (Nat.lt_trans HI8.out (by omega)) W);by_cases hok:rcOk rc rf rq
   ·have hen:=encW_len hok;have hpc:=put_receipt hok (UInt8.ofNat i);have HPut:Hid (∀ W,Below wr1.heap.size wr1 W→Calls Tryz.prog 13 #[v,.string ⟨#[UInt8.ofNat i]⟩,.string ⟨(encW rc rf rq).1.toArray⟩] W (TPutEnd W (Trie.put t (Nib.of [UInt8.ofNat i]) (encW rc rf rq).1) 0)):=ι (fun W hW=>by
     rw [←hpc];exact trie_Put W t v (HI.out.2.2.2.1.next hW) (by have:=HI.out.2.2.1; have:=HI8.out; omega) (HTb.out.next (HI.out.2.2.2.2.1.nxt hW)) [UInt8.ofNat i] (encW rc rf rq).1 (by simp) (by omega))
    have HQ:Hid (treeW t i (l.drop i)=treeW (Trie.put t (Nib.of [UInt8.ofNat i]) (encW rc rf rq).1) (i+1) (l.drop (i+1))):=ι (by rw [HI.out.2.2.2.2.2,treeW,if_pos hok]);have HCn:Hid (Trie.count (Trie.put t (Nib.of [UInt8.ofNat i]) (encW rc rf rq).1)≤i+1):=ι (by have:=Trie.count_put t (Nib.of [UInt8.ofNat i]) (encW rc rf rq).1; have:=HI.out.2.2.1; omega);have he2:(encW rc rf rq).2=0:=by rw [encW,if_pos hok]
    unfold REncEnd at HEnc;rw [he2] at HEnc;clear hen hpc hok hlen he2;generalize Trie.put t (Nib.of [UInt8.ofNat i]) (encW rc rf rq).1=t2 at *;generalize (encW rc rf rq).1=bytes at *;go_wp2_with fail
    refine (HEnc.out _).mono ?_;rintro e w2 ⟨rfl,hb2⟩;have HB2:=ι hb2;clear hb2;go_wp2_with fail
    refine (HKey.out _).mono ?_;rintro e w3 ⟨rfl,hb3⟩;have HB3:=ι (HB2.out.nxt hb3);clear hb3;go_wp2_with fail
    refine (HPut.out _ HB3.out).mono ?_;rintro e w4 ⟨v3,rfl,hb4,hk3,hn3⟩;have HB4:=ι (And.intro (HB3.out.nxt hb4) (hk3 (by first|exact trivial|rfl)));clear hb4 hk3 hn3;go_wp2_with fail
    refine Handed.intro (l.length - (i+1)) ?_ (hJ1 _ _ _ (fun Φ hΦ=>hΦ (i+1) (t2) (v3) ?_))
    ·have:=HI.out.1; omega
    exact ⟨by have:=HI.out.1; omega,HI.out.2.1.trans HQ.out,HCn.out,HB4.out.2,HI.out.2.2.2.2.1.nxt HB4.out.1⟩
   ·have HQ:Hid (treeW t i (l.drop i)=(.nil,3)):=ι (by rw [HI.out.2.2.2.2.2,treeW,if_neg hok]);have he2:encW rc rf rq=([],3):=by rw [encW,if_neg hok]
    rw [he2] at HEnc;clear hok hlen he2;go_wp2_with fail
    refine (HEnc.out _).mono ?_;rintro e w2 ⟨rfl,hb2⟩;have HB2:=ι hb2;clear hb2;go_wp2_with fail
    exact HP.out .nil 3 _ _ (HI.out.2.1.trans HQ.out) (HI.out.2.2.2.2.1.nxt HB2.out) (fun h=>by cases h) (fun _=>rfl)
  ·have hi1:((i:Int)<l.length)=False:=by simp; omega
   have HQ:Hid (treeW t i (l.drop i)=(t,0)):=ι (by rw [List.drop_of_length_le (by omega),treeW]);have HI:=ι (And.intro h2 (And.intro hk hb));clear h1 h2 h3 hk hb hi;go_wp2_with fail
   exact HP.out _ _ _ _ (HI.out.1.trans HQ.out) HI.out.2.2 (fun _=>HI.out.2.1) (fun h=>absurd rfl h)
def RRootEnd (w:World) (r:Trie.T × Nat) (e:Ending) (w':World):Prop:=e= .returned (.tuple #[.string ⟨(if r.2=0 then Trie.sumT r.1 else []).toArray⟩,r.2])∧Below w.heap.size w w'
end
theorem decW_encW {c q:Int} {f:List UInt8} (h:rcOk c f q):decW (encW c f q).1=((c.toNat,f,q.toNat),0):=by
 obtain ⟨h1,h2,h3,h4,h5,h6⟩:=id h;have b1:=numT_of c.toNat (by omega) (textW f++numW q.toNat);have b2:=txtT_of f (numW q.toNat) 6 (by omega) (by omega);have b3:=numT_of q.toNat (by omega) [];rw [List.append_nil] at b3;have e1:numS ((encW c f q).1,0)=(c.toNat,(textW f++numW q.toNat,0)):=by
  rw [encW,if_pos h];simp only [List.append_assoc];simp [numS,b1]
 have e2:txtS (textW f++numW q.toNat,0) 6=(f,(numW q.toNat,0)):=by simp [txtS,b2]
 have e3:numS (numW q.toNat,0)=(q.toNat,([],0)):=by simp [numS,b3]
 rw [decW_of e1 e2 e3,if_neg];rintro (h0|h0|h0)
 ·exact h0 (by simp [endS])
 ·omega
 ·apply h0
  rw [Int.toNat_of_nonneg h1,Int.toNat_of_nonneg h5];exact h
end Go.Proofs.YtnelhjfjkkdoaaaGreatDoor