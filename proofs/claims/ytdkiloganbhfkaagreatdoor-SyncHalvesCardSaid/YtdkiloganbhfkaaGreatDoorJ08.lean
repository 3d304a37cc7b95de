import Derived.Test.YtdkiloganbhfkaaGreatDoorJ07
set_option linter.unusedSimpArgs false
set_option linter.unusedVariables false
namespace Go.Proofs.YtdkiloganbhfkaaGreatDoor
section
open Go.RowKit Go.Instr
attribute [local go_sem] ba_get ByteArray.mk_append_mk
attribute [local go_sem ↓] Go.wp_at_zero Go.wp_at_succ
theorem Blk.setCells {g:Nat} {t:TypeId}:∀ (vs A B R:List Value) (w:World),B.length=vs.length→Blk w g t (A++(B++R)).toArray→Blk (w.setCells g A.length vs) g t (A++(vs++R)).toArray
 | [],A,B,R,w,h,hb=>by
  have:B= []:=List.eq_nil_of_length_eq_zero h
  subst this;exact hb
 |v::r,A,[],R,w,h,hb=>by simp at h
 |v::r,A,b::B,R,w,h,hb=>by
  have h1:=hb.set_ A.length v;rw [List.setIfInBounds_toArray,List.set_append_right _ _ (Nat.le_refl _),Nat.sub_self] at h1;simp only [List.cons_append,List.set_cons_zero] at h1;have h2:=Blk.setCells r (A++ [v]) B R (w.setCell ⟨g,A.length,none⟩ v) (by simpa using h) (by simpa using h1);rw [List.length_append] at h2;simpa [World.setCells] using h2
namespace Trie
end Trie
end
end Go.Proofs.YtdkiloganbhfkaaGreatDoor