import Derived.Test.YtnelhjfjkkdoaaaGreatDoorK13
import Derived.Test.YtnelhjfjkkdoaaaGreatDoorK11
set_option linter.unusedSimpArgs false
set_option linter.unusedVariables false
set_option maxHeartbeats 4000000
namespace Go.Proofs.YtnelhjfjkkdoaaaGreatDoor
section
open Go.RowKit Go.Instr
attribute [local go_sem] ba_get ByteArray.mk_append_mk
attribute [local go_sem ↓] Go.wp_at_zero Go.wp_at_succ
namespace Trie
theorem Good.put {t:T} (h:Good t) {key value:List UInt8} (hk:keyedW key=true) (hv:value≠ []) (hl:value.length≤32):Good (put t (Nib.of key) value):=by
 obtain ⟨k8,k0⟩:=keyed_len hk;have hof:=Nib.of_length key;obtain ⟨h1,h2⟩:=small_put h.wf h.small (Nib.fit_of key) (by omega) hv hl;refine ⟨h1,h2,fun q hq hne=> ?_⟩;rw [(put_spec t _ value h.wf (Nib.fit_of key) hv).2.1 q hq] at hne
 split at hne
 ·rename_i e; subst e;refine ⟨by omega,fun e=> ?_⟩
  have:=congrArg List.length e
  rw [hof] at this;simp at this
  exact k0 (List.eq_nil_of_length_eq_zero (by omega))
 ·exact h.even q hq hne
end Trie
def TPutEnd (w:World) (t:Trie.T) (code:Nat) (e:Ending) (w':World):Prop:=
 ∃ v',e= .returned (.tuple #[v',.int .i64 (code:Int)])∧Below w.heap.size w w'∧(code=0→TrieP w' t v')∧(code≠0→v'= .pointer none)
theorem z_14 {P:Prop} (h:P:=by
 have HNN:=ι (Trie.put_nn t (Nib.of key) value);have HGd:=ι (hg.put hkey hv0 h32);have HLen:Hid (∀ W,Below w.heap.size w W→Calls Tryz.prog 55 #[.pointer (some ⟨b,0,none⟩)] W fun e w'=>e= .returned (.int .i64 (Trie.count t:Int))∧W=w'):=ι (fun W hW=>trie_Len W t _ (TrieP.next ⟨hg,b,_,rfl,hbk,hk⟩ hW));have HR:Hid (Trie.putCode key value=0):=ι (by simp [Trie.putCode,hkey,ne2,h32]);have hcI:((1024:Int)≤(Trie.count t:Int))=False:=by simp; omega
 clear hk hg hbk hT hc hkey hv0 h32;go_enter Tryz.func13,Tryz.ntmps13
 go_upto_region 6 with (first|(go_at_call 53; refine (HKy.out _).mono ?_; rintro e w1 ⟨rfl,rfl⟩)|(go_at_call 54; refine (HOf.out _).mono ?_; rintro e w2 ⟨rfl,hb2⟩))
 have HB2:=ι hb2;have c2:=(hb2.cell (p:=⟨b,0,none⟩) HLt.out).trans c0;clear hb2 c0;go_wp2_with (first|(go_at_call 55; refine (HLen.out _ HB2.out).mono ?_; rintro e w3 ⟨rfl,rfl⟩)|(go_at_call 57; refine (HPut.out _ HB2.out).mono ?_; rintro e w3 ⟨x,rfl,hk,hb⟩; obtain ⟨b3,rfl⟩:=hk.ptr HNN.out))
 have hw4:Below w3.heap.size w3 (w3.alloc (.cells #[.pointer (some ⟨b3,0,none⟩)] 115)):=by go_grown
 exact HP.out 0 _ _ HR.out (HB2.out.nxt (hb.nxt hw4)) (fun _=>⟨HGd.out,_,_,rfl,Blk.new _ _ _,hk.next hw4⟩) (fun h=>absurd rfl h)):P:=h
theorem trie_Put (w:World) (t:Trie.T) (v:Value) (h:TrieP w t v) (hc:Trie.count t<1024) (hT:Tbl w) (key value:List UInt8) (hl:key.length≤9223372036854775807) (hvl:value.length≤9223372036854775807):
  Calls Tryz.prog 13 #[v,.string ⟨key.toArray⟩,.string ⟨value.toArray⟩] w (TPutEnd w (Trie.put t (Nib.of key) value) (Trie.putCode key value)):=by
 obtain ⟨hg,b,x,rfl,hbk,hk⟩:=h;have HP:Hid (∀ c v' w',Trie.putCode key value=c→Below w.heap.size w w'→(c=0→TrieP w' (Trie.put t (Nib.of key) value) v')→(c≠0→v'= .pointer none)→TPutEnd w (Trie.put t (Nib.of key) value) (Trie.putCode key value) (.returned (.tuple #[v',.int .i64 (c:Int)])) w'):=ι (fun c v' w' h1 h2 h3 h4=>⟨v',by rw [h1],h2,by rw [h1]; exact h3,by rw [h1]; exact h4⟩);have c0:w.cell? ⟨b,0,none⟩=some x:=hbk.cell 0;have HLt:=ι hbk.lt;generalize TPutEnd w (Trie.put t (Nib.of key) value) (Trie.putCode key value)=P at HP ⊢;cases hkey:Trie.keyedW key with
 |false=>
  have HKy:Hid (∀ W,Calls Tryz.prog 53 #[key] W fun e w'=>e= .returned (.bool false)∧W=w'):=ι (fun W=>by have:=trie_keyed key hl W; rwa [hkey] at this);have HR:Hid (Trie.putCode key value=1):=ι (by simp [Trie.putCode,hkey]);clear hbk hk hg hkey hT;go_enter Tryz.func13,Tryz.ntmps13
  go_wp2_with (go_at_call 53; refine (HKy.out _).mono ?_; rintro e w1 ⟨rfl,rfl⟩)
  exact HP.out 1 _ _ HR.out (Below.refl _ _) (fun h=>by simp at h) (fun _=>rfl)
 |true=>
 have HKy:Hid (∀ W,Calls Tryz.prog 53 #[key] W fun e w'=>e= .returned (.bool true)∧W=w'):=ι (fun W=>by have:=trie_keyed key hl W; rwa [hkey] at this);have hk8:=(Trie.keyed_len hkey).1;have HOf:Hid (∀ W,Calls Tryz.prog 54 #[key] W fun e w'=>e= .returned (.string ⟨(Nib.of key).toArray⟩)∧Below W.heap.size W w'):=ι (fun W=>nib_Of key W (by omega));by_cases hv0:value= []
 ·subst hv0;have HR:Hid (Trie.putCode key []=2):=ι (by simp [Trie.putCode,hkey]);clear hbk hk hg hkey hT;go_enter Tryz.func13,Tryz.ntmps13
  go_wp2_with (go_at_call 53; refine (HKy.out _).mono ?_; rintro e w1 ⟨rfl,rfl⟩)
  exact HP.out 2 _ _ HR.out (Below.refl _ _) (fun h=>by simp at h) (fun _=>rfl)
 have ne1:(value.toArray=#[])=False:=by simp [hv0]
 have ne2:value.isEmpty=false:=by simp [hv0]
 by_cases h32:value.length≤32
 ·have h32':(32<(value.length:Int))=False:=by simp; omega
  rcases hk.form with ⟨_,rfl⟩|⟨b2,_,_,rfl,_⟩
  ·skip
   have HPut:Hid (∀ W,Below w.heap.size w W→Calls Tryz.prog 57 #[(.pointer none),.string ⟨(Nib.of key).toArray⟩,.string ⟨value.toArray⟩] W (KnotEnd W (Trie.put t (Nib.of key) value))):=ι (fun W hW=>trie_put t (Nib.of key) value _ W hg.wf hg.small (by omega) (Nib.fit_of key) (by rw [Nib.of_length]; omega) hv0 (by omega) (hT.next hW) (hk.next hW));exact z_14
  ·skip
   have HPut:Hid (∀ W,Below w.heap.size w W→Calls Tryz.prog 57 #[(.pointer (some ⟨b2,0,none⟩)),.string ⟨(Nib.of key).toArray⟩,.string ⟨value.toArray⟩] W (KnotEnd W (Trie.put t (Nib.of key) value))):=ι (fun W hW=>trie_put t (Nib.of key) value _ W hg.wf hg.small (by omega) (Nib.fit_of key) (by rw [Nib.of_length]; omega) hv0 (by omega) (hT.next hW) (hk.next hW));exact z_14
 ·have h32':32<(value.length:Int):=by omega
  have HR:Hid (Trie.putCode key value=2):=ι (by simp [Trie.putCode,hkey,ne2]; omega);clear hbk hk hg hkey hT;go_enter Tryz.func13,Tryz.ntmps13
  go_wp2_with (go_at_call 53; refine (HKy.out _).mono ?_; rintro e w1 ⟨rfl,rfl⟩)
  exact HP.out 2 _ _ HR.out (Below.refl _ _) (fun h=>by simp at h) (fun _=>rfl)
end
section
open Go.RowKit Go.Instr
attribute [local go_sem] ba_get ByteArray.mk_append_mk
def treeW:Trie.T→Nat→List (Int × List UInt8 × Int)→Trie.T × Nat
 |t,k,[]=>(t,0)
 |t,k,x::l=>if rcOk x.1 x.2.1 x.2.2 then treeW (Trie.put t (Nib.of [UInt8.ofNat k]) (encW x.1 x.2.1 x.2.2).1) (k+1) l else (.nil,3)
end
end Go.Proofs.YtnelhjfjkkdoaaaGreatDoor