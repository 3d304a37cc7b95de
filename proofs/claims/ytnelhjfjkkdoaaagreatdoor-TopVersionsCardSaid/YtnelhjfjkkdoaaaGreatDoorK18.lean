import Derived.Test.YtnelhjfjkkdoaaaGreatDoorK17
set_option linter.unusedSimpArgs false
set_option linter.unusedVariables false
set_option maxHeartbeats 4000000
namespace Go.Proofs.YtnelhjfjkkdoaaaGreatDoor
section
open Go.RowKit Go.Instr
attribute [local go_sem] ba_get ByteArray.mk_append_mk
attribute [local go_sem ↓] Go.wp_at_zero Go.wp_at_succ
namespace Trie
open Nib
theorem small_del {t:T} {q:List UInt8} (hw:wf t) (hs:small t) (hq:fit q=true) (h:look t q≠ []):wf (del t q)∧small (del t q):=by
 obtain ⟨h1,h2,_⟩:=del_spec t q hw hq h;refine ⟨h1,fun r hr hne=> ?_⟩;rw [h2 r hr] at hne ⊢
 split
 ·rename_i e; rw [if_pos e] at hne; exact absurd rfl hne
 ·rename_i e;rw [if_neg e] at hne;exact hs r hr hne
theorem kid_le_kidsCount (kids:Fin 16→T) (i:Fin 16):count (kids i)≤kidsCount kids:=by
 unfold kidsCount
 have:=sum_one (fun i=>count (kids i)) i 0 (List.finRange 16) (List.nodup_finRange 16) (List.mem_finRange _)
 simp only [Nat.add_zero] at this;omega
theorem count_shrunk (v:List UInt8) (kids:Fin 16→T) (h:v≠ []∨1≤many kids):count (shrunk v kids)≤count (.branch v kids):=by
 unfold shrunk
 split
 ·rename_i m0;have hv:v≠ []:=by
   rcases h with h|h
   ·exact h
   ·omega
  rw [count_branch,if_neg hv]; simp [count]
 ·split
  ·rw [count_joined,count_branch]
   have:=kid_le_kidsCount kids (lastKid kids)
   omega
  ·exact Nat.le_refl _
theorem count_del (t:T):∀ q,wf t→fit q=true→look t q≠ []→count (del t q)≤count t:=by
 induction t with
 |nil=>intro q _ _ h; exact absurd rfl h
 |leaf p v=>intro q _ _ _; simp [del,count]
 |ext p t ih=>
  intro q hw hq h;simp only [del];rw [count_joined];exact ih _ hw.2.2.2 (fit_drop _ hq) (look_ext_some h).2
 |branch v kids ih=>
  intro q hw hq h;cases q with
  |nil=>
   simp only [del];refine Nat.le_trans (count_shrunk [] kids ?_) ?_
   ·have:=hw.2
    right
    split at this<;>omega
   ·rw [count_branch,count_branch]; simp
  |cons b r=>
   have hb:=fit_cons'.1 hq;simp only [look] at h;simp only [del];have h1:=ih (ix b) r (hw.1 _) hb.2 h;refine Nat.le_trans (count_shrunk v _ ?_) ?_
   ·rcases many_two hw.2 b with hv|⟨i,hne,hi⟩
    ·exact .inl hv
    ·right
     exact many_pos (i:=i) (by rw [setKid_other hne]; exact hi)
   ·rw [count_branch,count_branch]
    have:=kidsCount_set kids b (del (kids (ix b)) r)
    omega
end Trie
theorem trie_del (t:Trie.T):∀ (q:List UInt8) (x:Value) (w:World),Trie.wf t→Trie.small t→Trie.count t≤1000000→Nib.fit q=true→q.length≤16→Trie.look t q≠ []→Tbl w→KnotP w t x→
  Calls Tryz.prog 58 #[x,.string ⟨q.toArray⟩] w (KnotEnd w (Trie.del t q)):=by
 induction t with
 |nil=>intro q x w hw hs hc hq hl hlk hT hk; exact absurd rfl hlk
 |leaf p v=>
  intro q x w hw hs hc hq hl hlk hT hk;obtain ⟨g,ps,rfl,hps,hbk,hks⟩:=blk_of_knot hk (by simp);exact del_leaf p v q g ps hps w hbk
 |ext p s ih=>
  intro q x w hw hs hc hq hl hlk hT hk;obtain ⟨hw2,hs2⟩:=Trie.small_del hw hs hq hlk;have hc2:=Trie.count_del _ q hw hq hlk;obtain ⟨e1,e2⟩:=Trie.look_ext_some hlk;obtain ⟨g,ps,rfl,hps,hbk,hks⟩:=blk_of_knot hk (by simp);have hsn:s≠ .nil:=fun e=>by have:=hw.2.2.1; rw [e] at this; simp [Trie.isBranch] at this
  have hpl:p.length≤q.length:=by
   have:=congrArg List.length e1
   rw [List.length_append] at this; omega
  have hnn:=(Trie.del_spec s (q.drop p.length) hw.2.2.2 (Trie.fit_drop _ hq) e2).2.2 hw.2.2.1;simp only [Trie.del] at hw2 hs2 hc2 ⊢;rw [Trie.count_joined] at hc2;exact del_below p q s _ hpl (by omega) hsn hnn hw2 hs2 (by simp only [Trie.count] at hc hc2; omega) g ps hps w hT hbk (hks 0)
   (fun x W hTW hkW=>ih _ x W hw.2.2.2 (Trie.small_ext hw.1 hs) hc (Trie.fit_drop _ hq) (by rw [List.length_drop]; omega) e2 hTW hkW)
 |branch v kids ih=>
  intro q x w hw hs hc hq hl hlk hT hk;obtain ⟨hw2,hs2⟩:=Trie.small_del hw hs hq hlk;have hc2:=Trie.count_del _ q hw hq hlk;obtain ⟨g,ps,rfl,hps,hbk,hks⟩:=blk_of_knot hk (by simp);cases q with
  |nil=>
   simp only [Trie.del] at hw2 hs2 hc2 ⊢;exact del_own v kids hw2 hs2 (by omega) g ps hps w hT hbk hks
  |cons b r=>
   have hbr:=Trie.fit_cons'.1 hq;simp only [Trie.del] at hw2 hs2 hc2 ⊢;have hck:=Trie.count_kid v kids (Trie.ix b);have hIH:∀ (x:Value) (W:World),Tbl W→KnotP W (kids (Trie.ix b)) x→Calls Tryz.prog 58 #[x,.string ⟨r.toArray⟩] W (KnotEnd W (Trie.del (kids (Trie.ix b)) r)):=
    fun x W hTW hkW=>ih (Trie.ix b) r x W (hw.1 _) (Trie.small_kid hs _) (by omega) hbr.2 (by simp at hl; omega) hlk hTW hkW
   by_cases hn:Trie.del (kids (Trie.ix b)) r= .nil
   ·exact del_kid0 v kids b r _ hbr.1 hn hw2 hs2 (by omega) g ps hps w hT hbk hks hIH
   ·exact del_kid1 v kids b r _ hbr.1 hn hw2 hs2 (by omega) g ps hps w hT hbk hks hIH
namespace Trie
theorem Good.del {t:T} (h:Good t) {key:List UInt8} (hl:look t (Nib.of key)≠ []):Good (del t (Nib.of key)):=by
 obtain ⟨h1,h2⟩:=small_del h.wf h.small (Nib.fit_of key) hl;refine ⟨h1,h2,fun q hq hne=> ?_⟩;rw [(del_spec t _ h.wf (Nib.fit_of key) hl).2.1 q hq] at hne
 split at hne
 ·exact absurd rfl hne
 ·exact h.even q hq hne
end Trie
theorem trie_Del (w:World) (t:Trie.T) (v:Value) (h:TrieP w t v) (hc:Trie.count t<1024) (hT:Tbl w) (key:List UInt8) (hl:key.length≤9223372036854775807):
  Calls Tryz.prog 14 #[v,.string ⟨key.toArray⟩] w (TPutEnd w (Trie.del t (Nib.of key)) (Trie.getW t key).2):=by
 have HGet0:=trie_Get w t v h key hl;obtain ⟨hg,b,x,rfl,hbk,hk⟩:=h;have HP:Hid (∀ c v' w',(Trie.getW t key).2=c→Below w.heap.size w w'→(c=0→TrieP w' (Trie.del t (Nib.of key)) v')→(c≠0→v'= .pointer none)→TPutEnd w (Trie.del t (Nib.of key)) (Trie.getW t key).2 (.returned (.tuple #[v',.int .i64 (c:Int)])) w'):=ι (fun c v' w' h1 h2 h3 h4=>⟨v',by rw [h1],h2,by rw [h1]; exact h3,by rw [h1]; exact h4⟩);have c0:w.cell? ⟨b,0,none⟩=some x:=hbk.cell 0;have HLt:=ι hbk.lt;generalize TPutEnd w (Trie.del t (Nib.of key)) (Trie.getW t key).2=P at HP ⊢;have refused:∀ c:Nat,c≠0→Trie.getW t key=([],c)→(c=1∨c=5)→Calls Tryz.prog 14 #[.pointer (some ⟨b,0,none⟩),key] w P:=by
  intro c hc0 hgw hcc;rw [hgw] at HGet0;have HG:=ι HGet0;have HR:=ι hgw;clear hgw HGet0 hk hg hbk hT hc;rcases hcc with rfl|rfl
  ·go_enter Tryz.func14,Tryz.ntmps14
   go_wp2_with (go_at_call 21; refine HG.out.mono ?_; rintro e w1 ⟨rfl,hb1⟩)
   exact HP.out 1 _ _ (by rw [HR.out]) hb1 (fun h=>by simp at h) (fun _=>rfl)
  ·go_enter Tryz.func14,Tryz.ntmps14
   go_wp2_with (go_at_call 21; refine HG.out.mono ?_; rintro e w1 ⟨rfl,hb1⟩)
   exact HP.out 5 _ _ (by rw [HR.out]) hb1 (fun h=>by simp at h) (fun _=>rfl)
 cases hkey:Trie.keyedW key with
 |false=>exact refused 1 (by simp) (by simp [Trie.getW,hkey]) (.inl rfl)
 |true=>
 by_cases hlk:Trie.look t (Nib.of key)= []
 ·exact refused 5 (by simp) (by simp [Trie.getW,hkey,hlk]) (.inr rfl)
 ·have hk8:=(Trie.keyed_len hkey).1;have hgw:Trie.getW t key=(Trie.look t (Nib.of key),0):=by simp [Trie.getW,hkey,hlk]
  rw [hgw] at HGet0;have HG:=ι HGet0;have HR:=ι hgw;have HOf:Hid (∀ W,Calls Tryz.prog 54 #[key] W fun e w'=>e= .returned (.string ⟨(Nib.of key).toArray⟩)∧Below W.heap.size W w'):=ι (fun W=>nib_Of key W (by omega));have HGd:=ι (hg.del hlk);have htn:t≠ .nil:=fun e=>by rw [e] at hlk; exact hlk rfl
  obtain ⟨b2,rfl⟩:=hk.ptr htn;clear refused HGet0 hgw hkey htn;by_cases hn:Trie.del t (Nib.of key)= .nil
  ·have HN:=ι hn;have HDel:Hid (∀ W,Below w.heap.size w W→Calls Tryz.prog 58 #[(.pointer (some ⟨b2,0,none⟩)),.string ⟨(Nib.of key).toArray⟩] W (KnotEnd W (Trie.del t (Nib.of key)))):=ι (fun W hW=>trie_del t (Nib.of key) _ W hg.wf hg.small (by omega) (Nib.fit_of key) (by rw [Nib.of_length]; omega) hlk (hT.next hW) (hk.next hW));clear hk hg hbk hT hc hlk hn;go_enter Tryz.func14,Tryz.ntmps14
   go_upto_region 4 with (go_at_call 21; refine (HG.out).mono ?_; rintro e w1 ⟨rfl,hb1⟩)
   have HB1:=ι hb1;have c1:=(hb1.cell (p:=⟨b,0,none⟩) HLt.out).trans c0;have HLt1:=ι (Nat.lt_of_lt_of_le HLt.out hb1.size);clear hb1 c0;go_region_held3 (fun w'=>w'.cell? ⟨b,0,none⟩=some (.pointer (some ⟨b2,0,none⟩))) (first|go_keep|assumption|exact (((Below.refl _ _).alloc (Nat.le_refl _) _).drew.cell (p:=⟨b,0,none⟩) (Nat.lt_of_lt_of_le HLt1.out (hb2.nxt hb3).size)).trans d2|exact (((Below.refl _ _).alloc (Nat.le_refl _) _).cell (p:=⟨b,0,none⟩) (Nat.lt_of_lt_of_le HLt1.out (hb2.nxt hb3).size)).trans d2) (first|(go_at_call 54; refine (HOf.out _).mono ?_; rintro e w2 ⟨rfl,hb⟩; have hb2:Below w1.heap.size w1 w2:=(by first|exact hb|exact hb.start); clear hb; have d1:=(hb2.cell (p:=⟨b,0,none⟩) HLt1.out).trans c1)|(go_at_call 58; refine (HDel.out _ (by first|exact HB1.out.nxt hb2|exact (HB1.out.nxt hb2).drew)).mono ?_; rintro e w3 ⟨x,rfl,hk3,hb⟩; obtain rfl:=hk3.nil_iff.1 HN.out; have hb3:Below w2.heap.size w2 w3:=(by first|exact hb|exact hb.start); clear hb; have d2:=(hb3.cell (p:=⟨b,0,none⟩) (Nat.lt_of_lt_of_le HLt1.out hb2.size)).trans d1))
   go_wp2
   have hw4:Below w3.heap.size w3 (w3.alloc (.cells #[.pointer none] 115)):=by go_grown
   exact HP.out 0 _ _ (by rw [HR.out]) (HB1.out.nxt (hb2.nxt (hb3.nxt hw4))) (fun _=>⟨HGd.out,_,_,rfl,Blk.new _ _ _,hk3.next hw4⟩) (fun h=>absurd rfl h)
  ·have HN:=ι hn;have HDel:Hid (∀ W,Below w.heap.size w W→Calls Tryz.prog 58 #[(.pointer (some ⟨b2,0,none⟩)),.string ⟨(Nib.of key).toArray⟩] W (KnotEnd W (Trie.del t (Nib.of key)))):=ι (fun W hW=>trie_del t (Nib.of key) _ W hg.wf hg.small (by omega) (Nib.fit_of key) (by rw [Nib.of_length]; omega) hlk (hT.next hW) (hk.next hW));clear hk hg hbk hT hc hlk hn;go_enter Tryz.func14,Tryz.ntmps14
   go_upto_region 4 with (go_at_call 21; refine (HG.out).mono ?_; rintro e w1 ⟨rfl,hb1⟩)
   have HB1:=ι hb1;have c1:=(hb1.cell (p:=⟨b,0,none⟩) HLt.out).trans c0;have HLt1:=ι (Nat.lt_of_lt_of_le HLt.out hb1.size);clear hb1 c0;go_region_held3 (fun w'=>w'.cell? ⟨b,0,none⟩=some (.pointer (some ⟨b2,0,none⟩))) (first|go_keep|assumption|exact (((Below.refl _ _).alloc (Nat.le_refl _) _).drew.cell (p:=⟨b,0,none⟩) (Nat.lt_of_lt_of_le HLt1.out (hb2.nxt hb3).size)).trans d2|exact (((Below.refl _ _).alloc (Nat.le_refl _) _).cell (p:=⟨b,0,none⟩) (Nat.lt_of_lt_of_le HLt1.out (hb2.nxt hb3).size)).trans d2) (first|(go_at_call 54; refine (HOf.out _).mono ?_; rintro e w2 ⟨rfl,hb⟩; have hb2:Below w1.heap.size w1 w2:=(by first|exact hb|exact hb.start); clear hb; have d1:=(hb2.cell (p:=⟨b,0,none⟩) HLt1.out).trans c1)|(go_at_call 58; refine (HDel.out _ (by first|exact HB1.out.nxt hb2|exact (HB1.out.nxt hb2).drew)).mono ?_; rintro e w3 ⟨x,rfl,hk3,hb⟩; obtain ⟨b3,rfl⟩:=hk3.ptr HN.out; have hb3:Below w2.heap.size w2 w3:=(by first|exact hb|exact hb.start); clear hb; have d2:=(hb3.cell (p:=⟨b,0,none⟩) (Nat.lt_of_lt_of_le HLt1.out hb2.size)).trans d1))
   go_wp2
   have hw4:Below w3.heap.size w3 (w3.alloc (.cells #[.pointer (some ⟨b3,0,none⟩)] 115)):=by go_grown
   exact HP.out 0 _ _ (by rw [HR.out]) (HB1.out.nxt (hb2.nxt (hb3.nxt hw4))) (fun _=>⟨HGd.out,_,_,rfl,Blk.new _ _ _,hk3.next hw4⟩) (fun h=>absurd rfl h)
end
end Go.Proofs.YtnelhjfjkkdoaaaGreatDoor