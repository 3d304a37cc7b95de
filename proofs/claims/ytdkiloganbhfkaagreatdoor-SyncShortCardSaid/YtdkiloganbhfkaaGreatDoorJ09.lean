import Derived.Test.YtdkiloganbhfkaaGreatDoorJ08
set_option linter.unusedSimpArgs false
set_option linter.unusedVariables false
namespace Go.Proofs.YtdkiloganbhfkaaGreatDoor
section
open Go.RowKit Go.Instr
attribute [local go_sem] ba_get ByteArray.mk_append_mk
attribute [local go_sem ↓] Go.wp_at_zero Go.wp_at_succ
namespace Trie
open Nib
theorem small_del {t:T} {q:List UInt8} (hw:wf t) (hs:small t) (hq:fit q=true) (h:look t q≠ []):wf (del t q)∧small (del t q):=by
 obtain ⟨h1,h2,_⟩:=del_spec t q hw hq h;refine ⟨h1,fun r hr hne=> ?_⟩;rw [h2 r hr] at hne ⊢
 split
 ·rename_i e; rw [if_pos e] at hne; exact absurd rfl hne
 ·rename_i e;rw [if_neg e] at hne;exact hs r hr hne
theorem kid_le_kidsCount (kids:Fin 16→T) (i:Fin 16):count (kids i)≤kidsCount kids:=by
 unfold kidsCount
 have:=sum_one (fun i=>count (kids i)) i 0 (List.finRange 16) (List.nodup_finRange 16) (List.mem_finRange _)
 simp only [Nat.add_zero] at this;omega
theorem count_shrunk (v:List UInt8) (kids:Fin 16→T) (h:v≠ []∨1≤many kids):count (shrunk v kids)≤count (.branch v kids):=by
 unfold shrunk
 split
 ·rename_i m0;have hv:v≠ []:=by
   rcases h with h|h
   ·exact h
   ·omega
  rw [count_branch,if_neg hv]; simp [count]
 ·split
  ·rw [count_joined,count_branch]
   have:=kid_le_kidsCount kids (lastKid kids)
   omega
  ·exact Nat.le_refl _
theorem count_del (t:T):∀ q,wf t→fit q=true→look t q≠ []→count (del t q)≤count t:=by
 induction t with
 |nil=>intro q _ _ h; exact absurd rfl h
 |leaf p v=>intro q _ _ _; simp [del,count]
 |ext p t ih=>
  intro q hw hq h;simp only [del];rw [count_joined];exact ih _ hw.2.2.2 (fit_drop _ hq) (look_ext_some h).2
 |branch v kids ih=>
  intro q hw hq h;cases q with
  |nil=>
   simp only [del];refine Nat.le_trans (count_shrunk [] kids ?_) ?_
   ·have:=hw.2
    right
    split at this<;>omega
   ·rw [count_branch,count_branch]; simp
  |cons b r=>
   have hb:=fit_cons'.1 hq;simp only [look] at h;simp only [del];have h1:=ih (ix b) r (hw.1 _) hb.2 h;refine Nat.le_trans (count_shrunk v _ ?_) ?_
   ·rcases many_two hw.2 b with hv|⟨i,hne,hi⟩
    ·exact .inl hv
    ·right
     exact many_pos (i:=i) (by rw [setKid_other hne]; exact hi)
   ·rw [count_branch,count_branch]
    have:=kidsCount_set kids b (del (kids (ix b)) r)
    omega
end Trie
namespace Trie
theorem Good.del {t:T} (h:Good t) {key:List UInt8} (hl:look t (Nib.of key)≠ []):Good (del t (Nib.of key)):=by
 obtain ⟨h1,h2⟩:=small_del h.wf h.small (Nib.fit_of key) hl;refine ⟨h1,h2,fun q hq hne=> ?_⟩;rw [(del_spec t _ h.wf (Nib.fit_of key) hl).2.1 q hq] at hne
 split at hne
 ·exact absurd rfl hne
 ·exact h.even q hq hne
end Trie
end
end Go.Proofs.YtdkiloganbhfkaaGreatDoor