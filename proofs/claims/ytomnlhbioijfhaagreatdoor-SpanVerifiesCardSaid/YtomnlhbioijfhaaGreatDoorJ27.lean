import Derived.Test.YtomnlhbioijfhaaGreatDoorJ22
import Derived.Test.YtomnlhbioijfhaaGreatDoorJ21
import Derived.Test.YtomnlhbioijfhaaGreatDoorJ26
import Derived.Test.YtomnlhbioijfhaaGreatDoorJ14
import Derived.Deep.DeepCutAuto
import Derived.Test.YtomnlhbioijfhaaGreatDoorJ12
import Derived.Test.YtomnlhbioijfhaaGreatDoorJ06
import Derived.Test.YtomnlhbioijfhaaGreatDoorJ16
set_option linter.unusedSimpArgs false
set_option linter.unusedVariables false
namespace Go.Proofs.YtomnlhbioijfhaaGreatDoor
namespace Trie
open Nib
theorem range_fin {α : Type} (f : Nat → α) : (List.range 16).map f = (List.finRange 16).map fun i=>f i.val:=by
 refine List.ext_getElem (by simp) fun i h1 h2 => ?_
 simp
theorem OkLd.kid {pl v : List UInt8} {kids : Fin 16 → T} (h : OkLd pl (.branch v kids)) (i : Fin 16) (hi : kids i ≠ .nil) : OkLd (pl ++ [UInt8.ofNat i.val]) (kids i):=by
 refine ⟨hi,h.wf.1 i,fun q hq hl => ?_⟩
 obtain ⟨e1,e2⟩:=ix_of i
 have:=h.all (UInt8.ofNat i.val :: q) (fit_cons'.2 ⟨e2,hq⟩) (by simp only [look,e1]; exact hl)
 simp only [look,e1] at this
 rw [List.append_assoc]
 exact this
theorem OkLd.below {pl p : List UInt8} {t : T} (h : OkLd pl (.ext p t)) : OkLd (pl ++ p) t:=by
 have hw:=h.wf
 refine ⟨fun e=>(by have:=hw.2.2.1; rw [e] at this; cases this),hw.2.2.2,fun q hq hl => ?_⟩
 have:=h.all (p ++ q) (fit_append.2 ⟨hw.1,hq⟩) (by rw [look_ext]; exact hl)
 rw [look_ext] at this
 rw [List.append_assoc]
 exact this
theorem OkLd.has {pl : List UInt8} {t : T} (h : OkLd pl t) : ∃ q,fit q = true ∧ look t q ≠ []:=look_some t h.wf (by cases hi : isNil t with | false=>rfl | true=>exact absurd (isNil_iff.1 hi) h.nn)
theorem OkLd.short {pl : List UInt8} {t : T} (h : OkLd pl t) : pl.length ≤ 16:=by
 obtain ⟨q,h1,h2⟩:=h.has
 have:=(h.all q h1 h2).1
 rw [List.length_append] at this
 omega
theorem OkLd.many {pl : List UInt8} {t : T} {m : Nat} (h : OkLd pl t) (hm : m + count t ≤ 1024) : manyLd (nd t) pl m = (m + (if (valT t).isEmpty then 0 else 1),0):=by
 have hc:=count_eq h.nn h.wf
 unfold manyLd nd
 simp only
 by_cases hv : valT t = []
 ·rw [if_pos hv,hv]; rfl
 ·have he : (valT t).isEmpty = false:=by simp [hv]
  rw [he] at hc ⊢
  rw [if_neg hv]
  simp only [Bool.false_eq_true,if_false] at hc ⊢
  have hl : (pl.length + (pathT t).length) % 2 = 0 ∧ pl.length + (pathT t).length ≠ 0:=by
   cases t with
   | nil=>exact absurd rfl hv
   | leaf p v =>
    have:=h.all p h.wf.1 (by simp [look]; exact h.wf.2)
    simp only [pathT,← List.length_append]
    exact ⟨this.2.1,fun e=>this.2.2.1 (List.length_eq_zero_iff.1 e)⟩
   | ext p t=>exact absurd rfl hv
   | branch v kids =>
    have:=h.all [] rfl hv
    rw [List.append_nil] at this
    simp only [pathT,List.length_nil,Nat.add_zero]
    exact ⟨this.2.1,fun e=>this.2.2.1 (List.length_eq_zero_iff.1 e)⟩
  unfold itemLd
  rw [if_neg (by omega),if_neg (by omega)]
theorem kidAt_nd {pl : List UInt8} {t : T} (i : Fin 16) (h : kidsT t i ≠ .nil) (hok : OkLd pl t) : OkLd (kidAt (nd t) pl i.val) (kidsT t i) ∧ ((kindT t = 2) → isBranch (kidsT t i) = true) ∧ pl.length < (kidAt (nd t) pl i.val).length:=by
 cases t with
 | nil=>exact absurd rfl h
 | leaf p v=>exact absurd rfl h
 | ext p t =>
  simp only [kidsT] at h ⊢
  by_cases hi : i = 0
  ·rw [if_pos hi] at h ⊢
   have e : kidAt (nd (.ext p t)) pl i.val = pl ++ p:=by simp [kidAt,nd,kindT,pathT]
   rw [e,List.length_append]
   have:=List.length_pos_iff.2 hok.wf.2.1
   exact ⟨hok.below,fun _=>hok.wf.2.2.1,by omega⟩
  ·rw [if_neg hi] at h; exact absurd rfl h
 | branch v kids =>
  have e : kidAt (nd (.branch v kids)) pl i.val = pl ++ [UInt8.ofNat i.val]:=by simp [kidAt,nd,kindT]
  rw [e,List.length_append]
  exact ⟨hok.kid i h,fun e=>by simp [kindT] at e,by simp⟩
theorem Good.okLd {t : T} (h : Good t) (hn : t ≠ .nil) : OkLd [] t:=by
 obtain ⟨h1,h2,h3⟩:=h
 refine ⟨hn,h1,fun q hq hl => ?_⟩
 have a:=h2 q hq hl
 have b:=h3 q hq hl
 exact ⟨a.1,b.1,b.2,a.2⟩
end Trie
end Go.Proofs.YtomnlhbioijfhaaGreatDoor
namespace Go.Proofs.YtomnlhbioijfhaaGreatDoor
open Go.RowKit Go.Instr
attribute [local go_sem] ba_get ByteArray.mk_append_mk
theorem icells_append (a b : List Trie.KV) : icells (a ++ b) = icells a ++ icells b:=by simp [icells]
theorem icells_one (l : List Trie.KV) : ∀ u ∈ icells l,u.oneCell' = true:=by
 intro u hu
 simp only [icells,List.mem_flatMap] at hu
 obtain ⟨x,_,hu⟩:=hu
 simp at hu
 rcases hu with rfl | rfl <;> rfl
theorem own_at {w : World} {base e size n c : Nat} {A : Option Addr} {xs : List Value} (h : w.ownsRow base e size (.slice A n c) n xs) (hn : 0 < n) (hs : 0 < size) :
  ∃ g,A = some ⟨g,0,none⟩ ∧ base ≤ g ∧ g < w.heap.size ∧ ∀ (j : Nat) (hj : j < xs.length),w.cell? ⟨g,j,none⟩ = some xs[j]:=by
 obtain ⟨A',c',hv,HR,hc,hb⟩:=own_form h
 injection hv with hA _ _
 subst hA
 obtain ⟨g,cap,hv,hge,hlt⟩:=h.form hn
 injection hv with hA
 subst hA
 obtain ⟨b,off,e1,hbl,hcell⟩:=HR.form hn hs
 injection e1 with e1
 injection e1 with e1 e2
 subst e1
 subst e2
 exact ⟨g,rfl,hge,hlt,fun j hj=>by have:=hcell j hj; rwa [Nat.zero_add] at this⟩
theorem grown_set1 {w w' : World} {g : Nat} (h : w.grownBy w' (some g)) (i : Nat) (v : Value) : w.grownBy (w'.setCell ⟨g,i,none⟩ v) (some g) :=
 ⟨h.os,h.tape,h.output,by rw [World.size_setCell]; exact h.size,fun k hk hne=>(Below.heap_setCell w' ⟨g,i,none⟩ v k (fun e=>hne (by rw [e]))).trans (h.block k hk hne)⟩
theorem decN_small (s : List UInt8) : (decN s).1.2.1.length ≤ 16 ∧ (decN s).1.2.2.2.length = 16:=by
 rcases decN_cases s with h | ⟨n,h,h1,h2,_⟩
 ·rw [h]; exact ⟨Nat.zero_le _,rfl⟩
 ·rw [h]
  exact ⟨(fineN_parts h2).2.2.1,h1⟩
end Go.Proofs.YtomnlhbioijfhaaGreatDoor
namespace Go.Proofs.YtomnlhbioijfhaaGreatDoor
open Go.RowKit Go.Instr
set_option maxHeartbeats 1000000 in
theorem book_SpoilItems2 (w : World) (B : Nat) (A : Option Addr) (n c : Nat) (xs : List Value) (own : w.ownsRow B 77 2 (.slice A n c) n xs) (hB : B ≤ w.heap.size) (hn : n ≤ 1000000) :
  Calls Tryz.prog 12 #[.slice A n c] w fun e w'=>e = .returned (.tuple #[]) ∧ w.grownBy w' (Value.slice A n c).ownBlock:=by
 have HP : Hid (∀ w',w.grownBy w' (Value.slice A n c).ownBlock → (fun e w'=>e = Ending.returned (.tuple #[]) ∧ w.grownBy w' (Value.slice A n c).ownBlock) (.returned (.tuple #[])) w'):=Lib.hid (fun w' h=>⟨rfl,h⟩)
 generalize (fun e w'=>e = Ending.returned (.tuple #[]) ∧ w.grownBy w' (Value.slice A n c).ownBlock) = P at HP ⊢
 have HO:=Lib.hid own
 clear own
 go_enter Tryz.func12,Tryz.ntmps12
 go_wp2
 refine wp_loop_ghost_k (fun k a wr => ∀ Φ : Act → Prop,(∀ (s1 s3 s4 s5 s6 s7 s8 s9 s10 s11 s12 : Value) (i : Nat) (ys : List Value),(i + k = n ∧ wr.ownsRow B 77 2 (.slice A n c) n ys ∧ w.grownBy wr (Value.slice A n c).ownBlock) → Φ { tmps:=#[.slice A n c,s1,.int .i64 (i : Int),s3,s4,s5,s6,s7,s8,s9,s10,s11,s12],defers := [] }) → Φ a) (n) ?_ ?_
 ·refine fun Φ hΦ=>hΦ _ _ _ _ _ _ _ _ _ _ _ (0) (xs) ?_
  exact ⟨by omega,HO.out,World.grownBy.refl _ _⟩
 ·intro k1 a1 wr1 hI1 J1 K1 hJ1 hK1
  refine hI1 (fun a=>Code.wp _ _ _ a _) ?_
  clear hI1 a1
  intro s0 s1 s2 s3 s4 s5 s6 s7 s8 s9 s10 i ys hrel
  show Code.wp _ _ _ _ _
  obtain ⟨h1,ho,hb⟩:=hrel
  by_cases hi : i < n
  ·obtain ⟨g,rfl,hge,hlt,hc⟩:=own_at ho (by omega) (by omega)
   have hl : ys.length = n * 2:=ho.1
   have c0:=hc (i * 2) (by omega)
   have c1:=hc (i * 2 + 1) (by omega)
   have f0:=ho.frozenAt (i * 2)
   have f1:=ho.frozenAt (i * 2 + 1)
   have H:=Lib.hid (And.intro h1 (And.intro ho (And.intro hb hge)))
   have hi1 : (i : Int) < n:=by omega
   have hi0 : (0 : Int) ≤ i:=by omega
   generalize ys[i * 2] = u0 at *
   generalize ys[i * 2 + 1] = u1 at *
   clear h1 ho hb hge hc
   go_wp2
   refine Handed.intro (n - (i + 1)) ?_ (hJ1 _ _ _ (fun Φ hΦ=>hΦ _ _ _ _ _ _ _ _ _ _ _ (i + 1) (((ys.set (i * 2) (.string ⟨#[97,110,111,116,104,101,114,32,111,110,101]⟩)).set (i * 2 + 1) (.string ⟨#[]⟩))) ?_))
   ·have:=H.out.1
    omega
   ·obtain ⟨h1,ho,hb,hge⟩:=H.out
    have s1:=ho.stored (i * 2) (.string ⟨#[97,110,111,116,104,101,114,32,111,110,101]⟩)
    have s2:=s1.1.stored (i * 2 + 1) (.string ⟨#[]⟩)
    exact ⟨by omega,s2.1,grown_set1 (grown_set1 hb _ _) _ _⟩
  ·have hi2 : ((i : Int) < n) = False:=by simp; omega
   have H:=Lib.hid hb
   clear ho hb h1 hi
   go_wp2
   go_end0
   exact HP.out _ H.out
end Go.Proofs.YtomnlhbioijfhaaGreatDoor
