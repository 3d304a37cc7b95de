import Derived.Test.YtnelhjfjkkdoaaaGreatDoorJ18
import Derived.Shelf.Abstract
set_option linter.unusedSimpArgs false
set_option linter.unusedVariables false
namespace Go.Proofs.YtnelhjfjkkdoaaaGreatDoor
open Go.RowKit Go.Instr
attribute [local go_sem] ba_get ByteArray.mk_append_mk
attribute [local go_sem ↓] Go.wp_at_zero Go.wp_at_succ
namespace Trie
open Nib
structure At (pl : List UInt8) (t : T) : Prop where
 wf : wf t
 fit : fit pl = true
 all : ∀ q,Nib.fit q = true → look t q ≠ [] → (pl ++ q).length ≤ 16 ∧ (pl ++ q).length % 2 = 0 ∧ (look t q).length ≤ 32
theorem hb_fit (i : Fin 16) : Nib.fit [hb i] = true:=by
 obtain ⟨_,e2⟩:=ix_of i
 exact fit_cons'.2 ⟨e2,rfl⟩
theorem At.kid {pl : List UInt8} {v : List UInt8} {kids : Fin 16 → T} (h : At pl (.branch v kids)) (i : Fin 16) : At (pl ++ [hb i]) (kids i):=by
 refine ⟨h.wf.1 i,fit_append.2 ⟨h.fit,hb_fit i⟩,fun q hq hl => ?_⟩
 obtain ⟨e1,e2⟩:=ix_of i
 have:=h.all (hb i :: q) (fit_cons'.2 ⟨e2,hq⟩) (by simp only [look,hb,e1]; exact hl)
 simp only [look,hb,e1] at this
 rw [List.append_assoc]
 exact this
theorem At.below {pl p : List UInt8} {t : T} (h : At pl (.ext p t)) : At (pl ++ p) t:=by
 refine ⟨h.wf.2.2.2,fit_append.2 ⟨h.fit,h.wf.1⟩,fun q hq hl => ?_⟩
 have:=h.all (p ++ q) (fit_append.2 ⟨h.wf.1,hq⟩) (by rw [look_ext]; exact hl)
 rw [look_ext] at this
 rw [List.append_assoc]
 exact this
theorem At.small {pl : List UInt8} {t : T} (h : At pl t) : Trie.small t:=fun q hq hl=>by
 have:=h.all q hq hl
 rw [List.length_append] at this
 exact ⟨by omega,this.2.2⟩
theorem At.len {pl : List UInt8} {t : T} (h : At pl t) (hn : t ≠ .nil) : pl.length ≤ 16:=by
 obtain ⟨q,g1,g2⟩:=look_some t h.wf (by cases t <;> simp_all [isNil])
 have:=(h.all q g1 g2).1
 rw [List.length_append] at this; omega
end Trie
namespace Trie
def itemsW (t : T) : List (List UInt8 × List UInt8):=(items t []).map fun x=>(Nib.joined x.1,x.2)
end Trie
namespace Trie
theorem getW_code {t : T} {key : List UInt8} (h : (getW t key).2 = 0) : keyedW key = true ∧ look t (Nib.of key) ≠ []:=by
 unfold getW at h
 split at h
 ·rename_i hk
  split at h
  ·cases h
  ·rename_i hv
   exact ⟨hk,fun e=>hv (by rw [e]; rfl)⟩
 ·cases h
end Trie
end Go.Proofs.YtnelhjfjkkdoaaaGreatDoor
namespace Go.Proofs.YtnelhjfjkkdoaaaGreatDoor
namespace Trie
theorem mem_itemsW {t : T} (h : Good t) (k v : List UInt8) : (k,v) ∈ itemsW t ↔ look t (Nib.of k) = v ∧ v ≠ []:=by
 rw [itemsW,List.mem_map]
 constructor
 ·rintro ⟨x,hx,e⟩
  obtain ⟨q,hq,rfl,hn⟩:=(mem_items t [] x h.wf).1 hx
  injection e with e1 e2
  subst e1
  simp only [List.nil_append] at e2 ⊢
  rw [Nib.of_joined q hq (h.even q hq hn).1,← e2]
  exact ⟨rfl,hn⟩
 ·rintro ⟨e,hn⟩
  subst e
  exact ⟨(Nib.of k,look t (Nib.of k)),(mem_items t [] _ h.wf).2 ⟨Nib.of k,Nib.fit_of k,rfl,hn⟩,by simp [Nib.joined_of]⟩
end Trie
end Go.Proofs.YtnelhjfjkkdoaaaGreatDoor
