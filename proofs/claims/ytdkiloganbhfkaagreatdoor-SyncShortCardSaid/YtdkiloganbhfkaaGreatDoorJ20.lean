import Derived.Test.YtdkiloganbhfkaaGreatDoorJ19
set_option linter.unusedSimpArgs false
set_option linter.unusedVariables false
namespace Go.Proofs.YtdkiloganbhfkaaGreatDoor
section
open Go.RowKit Go.Instr
attribute [local go_sem] ba_get ByteArray.mk_append_mk
attribute [local go_sem ↓] Go.wp_at_zero Go.wp_at_succ
structure IAt (w:World) (A:Option Addr) (n c:Nat) (t:Trie.T):Prop where
 hn:n=(Trie.itemsW t).length
 hc:n≤c
 ho:∃ B,w.ownsRow B 218 2 (.slice A n c) n (icells (Trie.itemsW t))
theorem IAt.hr {w:World} {A:Option Addr} {n c:Nat} {t:Trie.T} (h:IAt w A n c t):Reads w w.heap.size 2 A n (icells (Trie.itemsW t)):=by
 obtain ⟨B,h⟩:=h.ho;exact Reads.of_own h
theorem IAt.next {w w':World} {A:Option Addr} {n c:Nat} {t:Trie.T} (h:IAt w A n c t) (hb:Below w.heap.size w w'):IAt w' A n c t:=by
 obtain ⟨B,ho⟩:=h.ho;exact ⟨h.hn,h.hc,⟨B,own_below ho hb⟩⟩
theorem IAt.grown {W W':World} {A:Option Addr} {n c:Nat} {t:Trie.T} {g:Nat} (h:IAt W A n c t) (hg:W.grownBy W' (some g)) (hne:∀ a,A=some a→a.block≠g):IAt W' A n c t:=by
 obtain ⟨B,ho⟩:=h.ho;refine ⟨h.hn,h.hc,⟨B,ho.kept hg ?_⟩⟩;cases A with
 |none=>exact .inl rfl
 |some a=>exact .inr (fun e=>hne a rfl (by injection e))
theorem IAt.grownO {W W':World} {A:Option Addr} {n c:Nat} {t:Trie.T} {row:Option Nat} (h:IAt W A n c t) (hg:W.grownBy W' row) (hne:∀ k,row=some k→∃ e cs,Blk W k e cs∧e≠218):IAt W' A n c t:=by
 obtain ⟨B,ho⟩:=h.ho;refine ⟨h.hn,h.hc,⟨B,ho.kept hg ?_⟩⟩;cases row with
 |none=>cases hv:(Value.slice A n c).ownBlock<;>simp
 |some k=>
  obtain ⟨e,cs,hb,h2⟩:=hne k rfl;exact .inr (own_blk_ne ho hb (fun h=>h2 h.symm))
def DoIEnd (w:World) (t:Trie.T) (cd:Nat) (e:Ending) (w':World):Prop:=
 ∃ A n c,e= .returned (.tuple #[.slice A n c,cd])∧Below w.heap.size w w'∧(cd=0→IAt w' A n c t∧∀ a,A=some a→w.heap.size≤a.block)∧(cd≠0→n=0)
theorem items_len {t:Trie.T}:(Trie.itemsW t).length=Trie.count t:=by rw [Trie.itemsW,List.length_map,Trie.length_items]
theorem items_Put (w:World) (t:Trie.T) (hg:Trie.Good t) (hcn:Trie.count t≤1000) (A:Option Addr) (n c:Nat) (h:IAt w A n c t) (k v:List UInt8) (hp:Trie.putCode k v=0) (hk:k.length≤9223372036854775807) (hv:v.length≤9223372036854775807):
  Calls Tryz.prog 102 #[.slice A n c,k,v] w (DoIEnd w (Trie.put t (Nib.of k) v) 0):=by
 have hr:=h.hr;obtain ⟨rfl,hc,_⟩:=h;obtain ⟨h1,h2⟩:=Trie.rput_put hg k v;rw [hp] at h1;have h2:=h2 hp;refine (ref10_Put w A c (Trie.itemsW t) hr hc (by rw [items_len]; exact hcn) k v hk hv).mono ?_;rintro e w' ⟨A',n',c',rfl,hn,hc',own,hb⟩;rw [h1];rw [h2] at hn own;obtain ⟨A2,c2,e2,_,_,hge⟩:=own_form own;injection e2 with e2 _ _
 subst e2;exact ⟨A',n',c',rfl,hb,fun _=>⟨⟨hn,hc',⟨_,own⟩⟩,hge⟩,fun h=>absurd rfl h⟩
theorem accW_none {t:Trie.T} {n:List UInt8} (hn:Ex.nameW n=true) (h:Ex.acc t n=none):accW t n=(([],0,0),3):=by unfold accW; rw [if_pos hn,h]
theorem accW_some {t:Trie.T} {n:List UInt8} {p:Nat × Nat} (hn:Ex.nameW n=true) (h:Ex.acc t n=some p):accW t n=((n,p.1,p.2),0):=by unfold accW; rw [if_pos hn,h]
end
end Go.Proofs.YtdkiloganbhfkaaGreatDoor