import Derived.Test.YtdkiloganbhfkaaGreatDoorJ12
import Derived.Test.YtdkiloganbhfkaaGreatDoorJ07
set_option linter.unusedSimpArgs false
set_option linter.unusedVariables false
namespace Go.Proofs.YtdkiloganbhfkaaGreatDoor
section
open Go.RowKit Go.Instr
attribute [local go_sem] ba_get ByteArray.mk_append_mk
theorem encW_len {c q:Int} {f:List UInt8} (h:rcOk c f q):(encW c f q).1≠ []∧(encW c f q).1.length≤32:=by
 obtain ⟨h1,h2,h3,h4,h5,h6⟩:=id h;have a1:=beB_len 2 c.toNat (by omega);have a2:=beB_len 1 f.length (by omega);have a3:=beB_len 6 q.toNat (by omega);rw [encW,if_pos h];refine ⟨by simp [numW],?_⟩;simp only [numW,textW,List.length_append,List.length_cons];omega
def rcells (l:List (Int × List UInt8 × Int)):List Value:=l.flatMap fun x=> [x.1,x.2.1,x.2.2]
theorem rcells_at {l:List (Int × List UInt8 × Int)} {i:Nat} (h:i<l.length):(rcells l)[3*i]?=some (.int .i64 l[i].1)∧(rcells l)[3*i+1]?=some (.string ⟨l[i].2.1.toArray⟩)∧(rcells l)[3*i+2]?=some (.int .i64 l[i].2.2):=by
 induction l generalizing i with
 |nil=>simp at h
 |cons a l ih=>
  rcases i with _|i
  ·simp [rcells]
  ·have:=ih (show i<l.length by simpa using h)
   rw [show 3*(i+1)=3*i+1+1+1 by omega];simpa [rcells] using this
theorem rcells_length (l:List (Int × List UInt8 × Int)):(rcells l).length=3*l.length:=by
 induction l with
 |nil=>rfl
 |cons a l ih=>
  rw [show rcells (a::l)= .int .i64 a.1:: .string ⟨a.2.1.toArray⟩:: .int .i64 a.2.2::rcells l from rfl,List.length_cons,List.length_cons,List.length_cons,ih,List.length_cons]; omega
def treeW:Trie.T→Nat→List (Int × List UInt8 × Int)→Trie.T × Nat
 |t,k,[]=>(t,0)
 |t,k,x::l=>if rcOk x.1 x.2.1 x.2.2 then treeW (Trie.put t (Nib.of [UInt8.ofNat k]) (encW x.1 x.2.1 x.2.2).1) (k+1) l else (.nil,3)
def RRootEnd (w:World) (r:Trie.T × Nat) (e:Ending) (w':World):Prop:=e= .returned (.tuple #[.string ⟨(if r.2=0 then Trie.sumT r.1 else []).toArray⟩,r.2])∧Below w.heap.size w w'
end
end Go.Proofs.YtdkiloganbhfkaaGreatDoor