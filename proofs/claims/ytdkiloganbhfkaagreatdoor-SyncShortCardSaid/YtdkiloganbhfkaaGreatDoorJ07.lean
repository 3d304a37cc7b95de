import Derived.Test.YtdkiloganbhfkaaGreatDoorJ06
import Derived.Deep.DeepCutAuto
import Derived.Deep.DrawnRows
import Derived.Deep.CutBlock
set_option linter.unusedSimpArgs false
set_option linter.unusedVariables false
namespace Go.Proofs.YtdkiloganbhfkaaGreatDoor
section
open Go.RowKit Go.Instr
attribute [local go_sem] ba_get ByteArray.mk_append_mk
attribute [local go_sem ↓] Go.wp_at_zero Go.wp_at_succ
namespace Trie
def nodes:T→Nat
 | .nil=>0
 | .leaf _ _=>1
 | .ext _ t=>1+nodes t
 | .branch _ kids=>1+((List.finRange 16).map fun i=>nodes (kids i)).sum
end Trie
namespace Trie
def keyedW (key:List UInt8):Bool:= !key.isEmpty && decide (key.length≤8)
structure Good (t:T):Prop where
 wf:wf t
 small:small t
 even:∀ q,Nib.fit q=true→look t q≠ []→q.length % 2=0∧q≠ []
theorem Good.nil:Good .nil:=⟨trivial,small_nil,fun q _ h=>absurd rfl h⟩
def putCode (key value:List UInt8):Nat:=if keyedW key then (if value.isEmpty||decide (32<value.length) then 2 else 0) else 1
end Trie
namespace Trie
def getW (t:T) (key:List UInt8):List UInt8 × Nat:=
 if keyedW key then (if (look t (Nib.of key)).isEmpty then ([],5) else (look t (Nib.of key),0)) else ([],1)
theorem keyed_len {key:List UInt8} (h:keyedW key=true):key.length≤8∧key≠ []:=by
 simp [keyedW] at h
 exact ⟨h.2,h.1⟩
end Trie
def TGetEnd (w:World) (r:List UInt8 × Nat) (e:Ending) (w':World):Prop:=e= .returned (.tuple #[r.1,r.2])∧Below w.heap.size w w'
namespace Trie
theorem Good.put {t:T} (h:Good t) {key value:List UInt8} (hk:keyedW key=true) (hv:value≠ []) (hl:value.length≤32):Good (put t (Nib.of key) value):=by
 obtain ⟨k8,k0⟩:=keyed_len hk;have hof:=Nib.of_length key;obtain ⟨h1,h2⟩:=small_put h.wf h.small (Nib.fit_of key) (by omega) hv hl;refine ⟨h1,h2,fun q hq hne=> ?_⟩;rw [(put_spec t _ value h.wf (Nib.fit_of key) hv).2.1 q hq] at hne
 split at hne
 ·rename_i e; subst e;refine ⟨by omega,fun e=> ?_⟩
  have:=congrArg List.length e
  rw [hof] at this;simp at this
  exact k0 (List.eq_nil_of_length_eq_zero (by omega))
 ·exact h.even q hq hne
end Trie
end
end Go.Proofs.YtdkiloganbhfkaaGreatDoor