import Derived.Test.YtomnlhbioijfhaaGreatDoorJ29
import Derived.Test.YtomnlhbioijfhaaGreatDoorJ19
import Derived.Great.BuildSlice
import Derived.Test.YtomnlhbioijfhaaGreatDoorJ22
import Derived.Test.YtomnlhbioijfhaaGreatDoorJ11
import Derived.Test.YtomnlhbioijfhaaGreatDoorJ07
import Derived.Test.YtomnlhbioijfhaaGreatDoorJ01
import Derived.OneCell
import Derived.Test.YtomnlhbioijfhaaGreatDoorJ20
import Derived.Test.YtomnlhbioijfhaaGreatDoorJ27
set_option linter.unusedSimpArgs false
set_option linter.unusedVariables false
namespace Go.Proofs.YtomnlhbioijfhaaGreatDoor
open Go.RowKit Go.Instr
attribute [local go_sem] ba_get ByteArray.mk_append_mk
theorem side_low {x y : List UInt8} (z : List UInt8) (h : 0 ≤ Nib.side (x ++ z) y) : 0 ≤ Nib.side x y:=by
 refine Decidable.byContradiction fun hn => ?_
 have h1 : Nib.side x y = -1:=by rcases Nib.side_cases x y with e | e | e <;> omega
 have h2:=Nib.side_below z h1
 have : Nib.side (x ++ z) y = -1:=by
  unfold Nib.side at h1 ⊢
  split at h1
  ·cases h1
  ·rename_i e1
   split at h1
   ·cases h1
   ·rename_i e2
    have hle:=Nib.common_le x y
    obtain ⟨c1,c2⟩:=Nib.common_append x z y (by omega)
    rw [c1,if_neg e1,if_neg (by rw [List.length_append]; omega),c2]
    exact h1
 omega
theorem side_high {x y : List UInt8} (z : List UInt8) (h : Nib.side (x ++ z) y ≤ 0) : Nib.side x y ≤ 0:=by
 refine Decidable.byContradiction fun hn => ?_
 have h1 : Nib.side x y = 1:=by rcases Nib.side_cases x y with e | e | e <;> omega
 have : Nib.side (x ++ z) y = 1:=by
  by_cases e1 : Nib.common x y = y.length
  ·have:=Nib.common_append_le x z y e1
   unfold Nib.side
   rw [if_pos this]
  ·unfold Nib.side at h1 ⊢
   rw [if_neg e1] at h1
   split at h1
   ·cases h1
   ·rename_i e2
    have hle:=Nib.common_le x y
    obtain ⟨c1,c2⟩:=Nib.common_append x z y (by omega)
    rw [c1,if_neg e1,if_neg (by rw [List.length_append]; omega),c2]
    exact h1
 omega
theorem goT_below (may : List UInt8 → Bool) (t : Trie.T) : ∀ pl,(∀ z,may (pl ++ z) = false) → (Trie.goT allW t pl).filter (fun x=>may x.1) = []:=by
 induction t with
 | nil=>intro pl _; rfl
 | leaf p v =>
  intro pl h
  have:=h []
  rw [List.append_nil] at this
  simp [Trie.goT,allW,this]
 | ext p t ih =>
  intro pl h
  have h0:=h []
  rw [List.append_nil] at h0
  simp only [Trie.goT,allW,if_true]
  rw [List.filter_cons,if_neg (by simp [h0])]
  exact ih _ fun z=>by rw [List.append_assoc]; exact h _
 | branch v kids ih =>
  intro pl h
  have h0:=h []
  rw [List.append_nil] at h0
  simp only [Trie.goT,allW,if_true]
  rw [List.filter_cons,if_neg (by simp [h0]),List.filter_flatMap,List.flatMap_eq_nil_iff]
  intro i _
  exact ih i _ fun z=>by rw [List.append_assoc]; exact h _
theorem goT_filter (may : List UInt8 → Bool) (hm : ∀ pl z,may (pl ++ z) = true → may pl = true) (t : Trie.T) : ∀ pl,Trie.goT may t pl = (Trie.goT allW t pl).filter (fun x=>may x.1):=by
 have key : ∀ t pl,may pl = false → (Trie.goT allW t pl).filter (fun x=>may x.1) = []:=fun t pl h=>goT_below may t pl fun z=>by
  cases he : may (pl ++ z) with
  | false=>rfl
  | true=>rw [hm pl z he] at h; cases h
 induction t with
 | nil=>intro pl; rfl
 | leaf p v =>
  intro pl
  cases h : may pl with
  | false=>rw [key _ _ h]; simp [Trie.goT,h]
  | true=>simp [Trie.goT,allW,h]
 | ext p t ih =>
  intro pl
  cases h : may pl with
  | false=>rw [key _ _ h]; simp [Trie.goT,h]
  | true =>
   simp only [Trie.goT,allW,if_true,h]
   rw [List.filter_cons,if_pos (by simp [h]),ih (pl ++ p)]
 | branch v kids ih =>
  intro pl
  cases h : may pl with
  | false=>rw [key _ _ h]; simp [Trie.goT,h]
  | true =>
   simp only [Trie.goT,allW,if_true,h]
   rw [List.filter_cons,if_pos (by simp [h]),List.filter_flatMap]
   congr 2
   funext i
   exact ih i _
theorem cover_closed (low high end_ : List UInt8) (pl z : List UInt8) (h : coverW low high end_ (pl ++ z) = true) : coverW low high end_ pl = true:=by
 simp only [coverW,Bool.and_eq_true,Bool.or_eq_true,decide_eq_true_eq] at h ⊢
 exact ⟨side_low z h.1,h.2.imp id (side_high z)⟩
end Go.Proofs.YtomnlhbioijfhaaGreatDoor
namespace Go.Proofs.YtomnlhbioijfhaaGreatDoor
namespace Trie
open Nib
theorem kidsGa_whole {F : List UInt8 → List UInt8 → Gst → Bool × Gst} {K : List (List UInt8)} {at_ : Nat → List UInt8} (ts : Nat → T) (tx : Nat → List (List UInt8)) (it : Nat → List KV) (hn : ∀ i,i < 16 → (K.getD i [] = [] ↔ ts i = .nil)) (h0 : ∀ i,i < 16 → ts i = .nil → tx i = [] ∧ it i = [])
  (hF : ∀ i l rest,i < 16 → ts i ≠ .nil → F (K.getD i []) (at_ i) (l,tx i ++ rest) = (true,(l ++ it i,rest))) :
  ∀ n l rest,n ≤ 16 → kidsGa F K at_ n (l,((List.range n).flatMap fun j=>tx (16 - n + j)) ++ rest) = (true,(l ++ ((List.range n).flatMap fun j=>it (16 - n + j)),rest))
 | 0,l,rest,_=>by simp [kidsGa]
 | n + 1,l,rest,hle=>by
  have e1 : ∀ j,16 - (n + 1) + (j + 1) = 16 - n + j:=fun j=>by omega
  rw [List.range_succ_eq_map,List.flatMap_cons,List.flatMap_cons,List.flatMap_map,List.flatMap_map]
  simp only [Nat.succ_eq_add_one,e1,Nat.add_zero]
  rw [show 16 - (n + 1) = 15 - n by omega,List.append_assoc]
  rw [kidsGa]
  by_cases hz : K.getD (15 - n) [] = []
  ·rw [if_pos hz]
   obtain ⟨z1,z2⟩:=h0 _ (by omega) ((hn _ (by omega)).1 hz)
   rw [z1,z2]
   exact kidsGa_whole ts tx it hn h0 hF n l rest (by omega)
  ·rw [if_neg hz,hF _ _ _ (by omega) (fun e=>hz ((hn _ (by omega)).2 e))]
   rw [if_pos rfl]
   simp only
   rw [kidsGa_whole ts tx it hn h0 hF n _ rest (by omega),List.append_assoc]
def kidN (t : T) (i : Nat) : T:=if h : i < 16 then kidsT t ⟨i,h⟩ else .nil
theorem goT_kids (may : List UInt8 → Bool) {t : T} (hn : t ≠ .nil) (pl : List UInt8) (h : may pl = true) : goT may t pl = (pl,t) :: ((List.range 16).flatMap fun i=>goT may (kidN t i) (kidAt (nd t) pl i)):=by
 have hk : ∀ i : Fin 16,kidN t i.val = kidsT t i:=fun i=>by unfold kidN; rw [dif_pos i.isLt]
 have hr : ((List.range 16).flatMap fun i=>goT may (kidN t i) (kidAt (nd t) pl i)) = (List.finRange 16).flatMap fun i=>goT may (kidsT t i) (kidAt (nd t) pl i.val):=by
  rw [List.flatMap_def,range_fin,← List.flatMap_def]
  simp only [hk]
 rw [hr]
 cases t with
 | nil=>exact absurd rfl hn
 | leaf p v=>simp [goT,h,kidsT,noKids]
 | ext p t =>
  have e0 : (List.finRange 16) = (0 : Fin 16) :: (List.finRange 16).tail:=by decide
  rw [e0,List.flatMap_cons]
  have e2 : ((List.finRange 16).tail.flatMap fun i=>goT may (kidsT (.ext p t) i) (kidAt (nd (.ext p t)) pl i.val)) = []:=by
   rw [List.flatMap_eq_nil_iff]
   intro i hi
   have : i ≠ 0:=by
    intro e
    subst e
    revert hi
    decide
   simp [kidsT,this,goT]
  rw [e2]
  simp [goT,h,kidsT,kidAt,nd,kindT,pathT]
 | branch v kids =>
  simp only [goT,h,if_true,kidsT]
  congr 2
theorem kidN_sum (t : T) (i : Nat) (h : i < 16) : (nd t).2.2.2.getD i [] = sumT (kidN t i):=by
 unfold kidN
 rw [dif_pos h]
 exact sumsT_at t ⟨i,h⟩
theorem kidAt_fit {t : T} (hw : wf t) {pl : List UInt8} (hf : fit pl = true) (i : Nat) (h : i < 16) : fit (kidAt (nd t) pl i) = true:=by
 have hb15 : UInt8.ofNat i ≤ 15:=by rw [UInt8.le_iff_toNat_le]; simp; omega
 have h1 : fit (pl ++ [UInt8.ofNat i]) = true:=fit_append.2 ⟨hf,by simp [fit,hb15]⟩
 cases t with
 | nil=>simpa [kidAt,nd,kindT] using h1
 | leaf p v=>simpa [kidAt,nd,kindT] using h1
 | ext p t=>simp only [kidAt,nd,kindT,pathT,if_true]; exact fit_append.2 ⟨hf,hw.1⟩
 | branch v kids=>simpa [kidAt,nd,kindT] using h1
theorem own_item {t : T} {pl : List UInt8} (h : OkLd pl t) (hf : fit pl = true) (f e : List UInt8) (l : List KV) : ownGa f e (nd t) pl l = (true,l ++ (itemD (pl,t)).filter fun x=>inK f e x.1):=by
 unfold ownGa itemD nd
 simp only
 by_cases hv : valT t = []
 ·rw [if_pos hv,if_pos hv]; simp
 ·rw [if_neg hv,if_neg hv]
  have hq : fit (pathT t) = true ∧ look t (pathT t) ≠ []:=by
   cases t with
   | nil=>exact absurd rfl hv
   | leaf p v=>exact ⟨h.wf.1,by simp [look,pathT]; exact h.wf.2⟩
   | ext p t=>exact absurd rfl hv
   | branch v kids=>exact ⟨rfl,hv⟩
  obtain ⟨a1,a2,a3,a4⟩:=h.all _ hq.1 hq.2
  have hfp : fit (pl ++ pathT t) = true:=fit_append.2 ⟨hf,hq.1⟩
  have hk : Nib.key (pl ++ pathT t) = (Nib.joined (pl ++ pathT t),0):=by unfold Nib.key; rw [if_pos hfp,if_neg (by omega)]
  have hj : Nib.joined (pl ++ pathT t) ≠ []:=fun e=>by
   have h1:=of_joined _ hfp a2
   rw [e] at h1
   exact a3 h1.symm
  unfold itemGa
  rw [hk]
  simp only
  rw [if_neg (by simp only [not_or]; exact ⟨by simp,hj,by omega⟩)]
  by_cases hin : inK f e (Nib.joined (pl ++ pathT t)) = true
  ·rw [if_pos hin]; simp [hin]
  ·rw [if_neg hin]; simp [hin]
theorem gath_whole (may : List UInt8 → Bool) (f e : List UInt8) : ∀ n t pl l rest,OkLd pl t → fit pl = true → 17 ≤ n + pl.length →
  gathW may f e n (sumT t) pl (l,textsD (goT may t pl) ++ rest) = (true,(l ++ (itemsD (goT may t pl)).filter (fun x=>inK f e x.1),rest))
 | 0,t,pl,l,rest,hok,_,hn=>by have:=hok.short; omega
 | n + 1,t,pl,l,rest,hok,hf,hn=>by
  cases hm : may pl with
  | false=>rw [gathW_no _ _ _ _ _ _ _ hm,goT_no _ _ _ hm]; simp [textsD,itemsD]
  | true =>
   rw [goT_kids may hok.nn pl hm]
   simp only [textsD,List.map_cons,List.cons_append]
   rw [gathW_cons _ _ _ _ _ _ _ _ _ hm,decN_text hok.nn hok.wf hok.small,sum_text hok.nn,if_neg (by simp)]
   simp only
   rw [own_item hok hf,if_neg (by simp)]
   simp only
   have hk:=kidsGa_whole (F:=gathW may f e n) (K:=(nd t).2.2.2) (at_:=kidAt (nd t) pl) (kidN t) (fun i=>textsD (goT may (kidN t i) (kidAt (nd t) pl i))) (fun i=>(itemsD (goT may (kidN t i) (kidAt (nd t) pl i))).filter fun x=>inK f e x.1)
    (fun i hi=>by rw [kidN_sum t i hi]; exact sumT_empty)
    (fun i hi h=>by rw [h]; simp [goT,textsD,itemsD])
    (fun i l rest hi hne=>by
     rw [kidN_sum t i hi]
     have he : kidN t i = kidsT t ⟨i,hi⟩:=by unfold kidN; rw [dif_pos hi]
     rw [he] at hne ⊢
     obtain ⟨k1,_,k3⟩:=kidAt_nd ⟨i,hi⟩ hne hok
     exact gath_whole may f e n _ _ l rest k1 (kidAt_fit hok.wf hf i hi) (by simp only at k3; omega))
    16 (l ++ (itemD (pl,t)).filter fun x=>inK f e x.1) rest (by omega)
   simp only [Nat.sub_self,Nat.zero_add] at hk
   rw [show (List.map (fun x : List UInt8 × T=>textT x.2) (List.flatMap (fun i=>goT may (kidN t i) (kidAt (nd t) pl i)) (List.range 16))) = List.flatMap (fun i=>textsD (goT may (kidN t i) (kidAt (nd t) pl i))) (List.range 16) by rw [List.map_flatMap]; rfl]
   rw [hk]
   simp only [itemsD,List.flatMap_cons,List.filter_append,List.flatMap_assoc,List.filter_flatMap,List.append_assoc]
theorem goT_at (may : List UInt8 → Bool) (t : T) : ∀ pl,At pl t → ∀ x ∈ goT may t pl,At x.1 x.2:=by
 induction t with
 | nil=>intro pl _ x hx; cases hx
 | leaf p v =>
  intro pl ha x hx
  simp only [goT] at hx
  split at hx
  ·rw [List.mem_singleton] at hx; subst hx; exact ha
  ·cases hx
 | ext p t ih =>
  intro pl ha x hx
  simp only [goT] at hx
  split at hx
  ·rcases List.mem_cons.1 hx with rfl | hx
   ·exact ha
   ·exact ih _ ha.below x hx
  ·cases hx
 | branch v kids ih =>
  intro pl ha x hx
  simp only [goT] at hx
  split at hx
  ·rcases List.mem_cons.1 hx with rfl | hx
   ·exact ha
   ·obtain ⟨i,_,hx⟩:=List.mem_flatMap.1 hx
    exact ih i _ (ha.kid i) x hx
  ·cases hx
theorem goT_place {t : T} (h : Good t) (x : List UInt8 × T) (hx : x ∈ goT allW t []) (hv : valT x.2 ≠ []) : of (Nib.joined (x.1 ++ pathT x.2)) = x.1 ++ pathT x.2:=by
 obtain ⟨a1,a2,a3⟩:=(goT_at allW t [] (At.top h) x hx).item hv
 exact of_joined _ a1 a3
theorem cover_items {t : T} (h : Good t) (f e : List UInt8) : (itemsD (goT (coverW (of f) (of e) e) t [])).filter (fun x=>inK f e x.1) = (itemsW t).filter fun x=>inK f e x.1:=by
 have e1 : itemsW t = itemsD (goT allW t []):=(itemsD_all t [] h.wf).symm
 rw [e1,goT_filter _ (cover_closed _ _ _)]
 have key : ∀ D : List (List UInt8 × T),(∀ x ∈ D,coverW (of f) (of e) e x.1 = false → (itemD x).filter (fun y=>inK f e y.1) = []) →
   (itemsD (D.filter fun x=>coverW (of f) (of e) e x.1)).filter (fun x=>inK f e x.1) = (itemsD D).filter fun x=>inK f e x.1:=by
  intro D
  induction D with
  | nil=>intro _; rfl
  | cons x D ih =>
   intro hD
   have ih:=ih (fun y hy=>hD y (List.mem_cons_of_mem _ hy))
   cases hc : coverW (of f) (of e) e x.1 with
   | true=>rw [List.filter_cons_of_pos (by simpa using hc)]; simp only [itemsD,List.flatMap_cons,List.filter_append] at ih ⊢; rw [ih]
   | false =>
    rw [List.filter_cons_of_neg (by simp [hc])]
    simp only [itemsD,List.flatMap_cons,List.filter_append] at ih ⊢
    rw [ih,hD x (List.mem_cons_self ..) hc]
    rfl
 refine key _ fun x hx hc => ?_
 unfold itemD
 split
 ·rfl
 ·rename_i hv
  rw [List.filter_eq_nil_iff]
  intro y hy
  rw [List.mem_singleton] at hy
  subst hy
  simp only
  intro hin
  have hp:=goT_place h x hx hv
  unfold inK at hin
  simp only [Bool.and_eq_true,Bool.not_eq_true',Bool.or_eq_true,decide_eq_true_eq] at hin
  have htr : trailW (of (Nib.joined (x.1 ++ pathT x.2))) x.1 = true:=by
   rw [trailW_iff,hp]
   simp
  rw [trail_cover _ _ _ hin.1 hin.2 x.1 htr] at hc
  cases hc
end Trie
namespace Trie
def nextB : Nat → List UInt8 → Option (List UInt8)
 | 0,_=>none
 | m + 1, []=>some [0]
 | m + 1,b :: r=>match nextB m r with
  | some s=>some (b :: s)
  | none=>if b = 255 then none else some [b + 1]
def behindW (k : List UInt8) : List UInt8:=if 8 < k.length then [] else (nextB 8 k).getD []
theorem u8_succ {b : UInt8} (h : b ≠ 255) : (b + 1).toNat = b.toNat + 1:=by
 have h1:=b.toNat_lt
 have h2 : b.toNat ≠ 255:=fun e=>h (UInt8.toNat_inj.1 e)
 rw [UInt8.toNat_add]
 simp
 omega
theorem blt_cons (a b : UInt8) (x y : List UInt8) : Op.bytesLess (a :: x) (b :: y) = (decide (a < b) || (a == b && Op.bytesLess x y)):=rfl
theorem nextB_spec : ∀ (m : Nat) (k : List UInt8),k.length ≤ m → ∀ j : List UInt8,j.length ≤ m → match nextB m k with
  | some s=>Op.bytesLess j s = !Op.bytesLess k j
  | none=>Op.bytesLess k j = false
 | 0,k,hk,j,hj=>by
  obtain rfl:=List.eq_nil_of_length_eq_zero (Nat.le_zero.1 hk)
  obtain rfl:=List.eq_nil_of_length_eq_zero (Nat.le_zero.1 hj)
  rfl
 | m + 1, [],hk,j,hj=>by
  simp only [nextB]
  cases j with
  | nil=>rfl
  | cons a j =>
   rw [blt_cons]
   have : ¬ a < 0:=by rw [UInt8.lt_iff_toNat_lt]; simp
   cases j <;> simp [Op.bytesLess,this]
 | m + 1,b :: r,hk,j,hj=>by
  rw [List.length_cons] at hk
  cases j with
  | nil =>
   simp only [nextB]
   split
   ·rename_i s hs
    split at hs
    ·injection hs with hs; subst hs; rfl
    ·split at hs
     ·cases hs
     ·injection hs with hs; subst hs; rfl
   ·rfl
  | cons a j =>
   rw [List.length_cons] at hj
   have ih:=nextB_spec m r (by omega) j (by omega)
   simp only [nextB]
   cases hn : nextB m r with
   | some s =>
    rw [hn] at ih
    simp only at ih ⊢
    rw [blt_cons,blt_cons,ih]
    by_cases h1 : a < b
    ·have h2 : ¬ b < a:=by rw [UInt8.lt_iff_toNat_lt] at h1 ⊢; omega
     have h3 : ¬ b = a:=fun e=>by subst e; rw [UInt8.lt_iff_toNat_lt] at h1; omega
     simp [h1,h2,h3]
    ·by_cases h2 : b < a
     ·have h3 : ¬ a = b:=fun e=>by subst e; exact h1 h2
      simp [h1,h2,h3]
     ·have h3 : a = b:=UInt8.toNat_inj.1 (by rw [UInt8.lt_iff_toNat_lt] at h1 h2; omega)
      subst h3
      simp [h1]
   | none =>
    rw [hn] at ih
    simp only at ih ⊢
    by_cases hb : b = 255
    ·rw [if_pos hb]
     simp only
     rw [blt_cons,ih]
     have : ¬ b < a:=by
      rw [UInt8.lt_iff_toNat_lt]
      have:=a.toNat_lt
      subst hb
      simp
      omega
     simp [this]
    ·rw [if_neg hb]
     simp only
     rw [blt_cons,blt_cons,ih]
     have hs:=u8_succ hb
     by_cases h1 : b < a
     ·have h2 : ¬ a < b + 1:=by rw [UInt8.lt_iff_toNat_lt] at h1 ⊢; omega
      have h4 : Op.bytesLess j [] = false:=by cases j <;> rfl
      simp [h1,h2,h4]
     ·have h2 : a < b + 1:=by rw [UInt8.lt_iff_toNat_lt] at h1 ⊢; omega
      simp [h1,h2]
theorem behind_spec {k j : List UInt8} (hk : k.length ≤ 8) (hj : j.length ≤ 8) (hne : behindW k ≠ []) : Op.bytesLess j (behindW k) = !Op.bytesLess k j:=by
 have:=nextB_spec 8 k hk j hj
 unfold behindW at hne ⊢
 rw [if_neg (by omega)] at hne ⊢
 cases h : nextB 8 k with
 | none=>rw [h] at hne; exact absurd rfl hne
 | some s=>rw [h] at this; exact this
theorem behind_none {k j : List UInt8} (hk : k.length ≤ 8) (hj : j.length ≤ 8) (h : Op.bytesLess k j = true) : behindW k ≠ []:=by
 have hs:=nextB_spec 8 k hk j hj
 unfold behindW
 rw [if_neg (by omega)]
 cases hn : nextB 8 k with
 | none=>rw [hn] at hs; simp only at hs; rw [h] at hs; cases hs
 | some s =>
  have : ∀ (m : Nat) (k s : List UInt8),nextB m k = some s → s ≠ []:=by
   intro m
   induction m with
   | zero=>intro k s h; cases h
   | succ m ih =>
    intro k s h
    cases k with
    | nil=>simp [nextB] at h; subst h; simp
    | cons b r =>
     simp only [nextB] at h
     split at h
     ·injection h with h; subst h; simp
     ·split at h
      ·cases h
      ·injection h with h; subst h; simp
  exact this 8 k s hn
def allIn (L : List KV) (f e : List UInt8) : List KV:=L.filter fun x=>inK f e x.1
def pageW (L : List KV) (f e : List UInt8) (most : Nat) : List KV × List UInt8 :=
 if (allIn L f e).length ≤ most then (allIn L f e, []) else ((allIn L f e).take most,behindW ((allIn L f e).getD (most - 1) ([], [])).1)
def upToW (next e : List UInt8) : List UInt8:=if next ≠ [] then next else e
end Trie
namespace Trie
theorem allIn_mem {L : List KV} {f e : List UInt8} {x : KV} : x ∈ allIn L f e ↔ x ∈ L ∧ inK f e x.1 = true:=by
 unfold allIn; rw [List.mem_filter]
theorem allIn_rises {L : List KV} (h : rises L) (f e : List UInt8) : rises (allIn L f e):=List.Pairwise.sublist List.filter_sublist h
theorem rises_cut {A : List KV} (h : rises A) (m : Nat) (hm : m < A.length) : (A.filter fun y => !Op.bytesLess (A[m]'hm).1 y.1) = A.take (m + 1):=by
 have hs : A = A.take (m + 1) ++ A.drop (m + 1):=(List.take_append_drop _ _).symm
 have hk : (A.take (m + 1)).filter (fun y => !Op.bytesLess (A[m]'hm).1 y.1) = A.take (m + 1):=by
  rw [List.filter_eq_self]
  intro y hy
  obtain ⟨i,hi,rfl⟩:=List.getElem_of_mem hy
  rw [List.length_take] at hi
  rw [List.getElem_take]
  by_cases e : i = m
  ·subst e; simp [bl_irrefl]
  ·have:=List.pairwise_iff_getElem.1 h i m (by omega) hm (by omega)
   rw [bl_asymm _ _ this]
   rfl
 have hd : (A.drop (m + 1)).filter (fun y => !Op.bytesLess (A[m]'hm).1 y.1) = []:=by
  rw [List.filter_eq_nil_iff]
  intro y hy
  obtain ⟨i,hi,rfl⟩:=List.getElem_of_mem hy
  rw [List.length_drop] at hi
  rw [List.getElem_drop]
  have:=List.pairwise_iff_getElem.1 h m (m + 1 + i) hm (by omega) (by omega)
  simp [this]
 calc (A.filter fun y => !Op.bytesLess (A[m]'hm).1 y.1) = (A.take (m + 1) ++ A.drop (m + 1)).filter (fun y => !Op.bytesLess (A[m]'hm).1 y.1):=by rw [← hs]
  _ = A.take (m + 1):=by rw [List.filter_append,hk,hd,List.append_nil]
theorem page_spec {L : List KV} (hr : rises L) (hk : ∀ x ∈ L,x.1.length ≤ 8) (f e : List UInt8) (most : Nat) (hm : 1 ≤ most) :
  ((pageW L f e most).2 ≠ [] ↔ most < (allIn L f e).length) ∧ (pageW L f e most).1 = (allIn L f e).take most ∧ allIn L f (upToW (pageW L f e most).2 e) = (pageW L f e most).1 ∧
  ((pageW L f e most).2 ≠ [] → (pageW L f e most).1.length = most ∧ (e ≠ [] → Op.bytesLess (pageW L f e most).2 e = true) ∧ (pageW L f e most).2 = behindW ((pageW L f e most).1.getD (most - 1) ([], [])).1):=by
 have hA:=allIn_rises hr f e
 unfold pageW
 by_cases h : (allIn L f e).length ≤ most
 ·rw [if_pos h]
  refine ⟨?_, ?_, ?_,fun h=>absurd rfl h⟩
  ·simp; omega
  ·simp only; rw [List.take_of_length_le h]
  ·unfold upToW; simp
 ·rw [if_neg h]
  have h0 : most - 1 < (allIn L f e).length:=by omega
  have h1 : most < (allIn L f e).length:=by omega
  have ek : ((allIn L f e).getD (most - 1) ([], [])) = (allIn L f e)[most - 1]'h0:=by rw [List.getD_eq_getElem?_getD,List.getElem?_eq_getElem h0]; rfl
  have m0:=allIn_mem.1 (List.getElem_mem h0)
  have m1:=allIn_mem.1 (List.getElem_mem h1)
  have lt:=List.pairwise_iff_getElem.1 hA (most - 1) most h0 h1 (by omega)
  have l0:=hk _ m0.1
  have l1:=hk _ m1.1
  have hne:=behind_none l0 l1 lt
  have hlt : e ≠ [] → Op.bytesLess (behindW ((allIn L f e)[most - 1]'h0).1) e = true:=fun he=>by
   have hx:=m1.2
   unfold inK at hx
   simp only [Bool.and_eq_true,Bool.or_eq_true,decide_eq_true_eq] at hx
   have hxe:=hx.2.resolve_left he
   have hbx : Op.bytesLess ((allIn L f e)[most]'h1).1 (behindW ((allIn L f e)[most - 1]'h0).1) = false:=by rw [behind_spec l0 l1 hne,lt]; rfl
   by_cases hq : behindW ((allIn L f e)[most - 1]'h0).1 = ((allIn L f e)[most]'h1).1
   ·rw [hq]; exact hxe
   ·exact bl_trans _ _ _ (bl_gt hbx hq) hxe
  simp only
  rw [ek]
  refine ⟨⟨fun _=>h1,fun _=>hne⟩,(by first | exact trivial | rfl), ?_,fun _=>⟨by rw [List.length_take]; omega,hlt, ?_⟩⟩
  ·unfold upToW
   rw [if_pos hne]
   have e1 : allIn L f (behindW ((allIn L f e)[most - 1]'h0).1) = (allIn L f e).filter fun y => !Op.bytesLess ((allIn L f e)[most - 1]'h0).1 y.1:=by
    generalize hK : ((allIn L f e)[most - 1]'h0).1 = K at *
    unfold allIn
    rw [List.filter_filter]
    refine List.filter_congr fun y hy => ?_
    have ly:=hk y hy
    have hb:=behind_spec l0 ly hne
    unfold inK
    rw [decide_eq_false hne,Bool.false_or,hb]
    have hin:=m0.2
    unfold inK at hin
    simp only [Bool.and_eq_true,Bool.or_eq_true,decide_eq_true_eq] at hin
    cases hky : Op.bytesLess K y.1 with
    | true=>simp
    | false =>
     have hye : e = [] ∨ Op.bytesLess y.1 e = true:=by
      rcases hin.2 with h | h
      ·exact .inl h
      ·right
       by_cases hq : y.1 = K
       ·rw [hq]; exact h
       ·exact bl_trans _ _ _ (bl_gt hky hq) h
     rcases hye with h | h <;> simp [h]
   rw [e1,rises_cut hA (most - 1) h0,show most - 1 + 1 = most by omega]
  ·congr 1
   have h2 : most - 1 < ((allIn L f e).take most).length:=by rw [List.length_take]; omega
   rw [List.getD_eq_getElem?_getD,List.getElem?_eq_getElem h2,Option.getD_some,List.getElem_take]
end Trie
namespace Trie
open Nib
def goesOnW (items : List KV) (next e : List UInt8) (most : Nat) : Bool :=
 if most < items.length then false
 else if next = [] then true
 else if items.length ≠ most ∨ (e ≠ [] ∧ Op.bytesLess next e = false) then false
 else decide (next = behindW (items.getD (most - 1) ([], [])).1)
def gotW (root f e : List UInt8) (nodes : List (List UInt8)) : Bool × Gst:=gathW (coverW (of f) (of e) e) f e (nodes.length + 17) root [] ([],nodes)
def verifyP (root f e : List UInt8) (most : Nat) (items : List KV) (next : List UInt8) (nodes : List (List UInt8)) : List KV × List UInt8 × Nat :=
 if goesOnW items next e most = false then ([], [],130)
 else if root = [] then (if nodes ≠ [] ∨ items ≠ [] then ([], [],130) else ([], [],0))
 else if (gotW root f (upToW next e) nodes).1 = false ∨ (gotW root f (upToW next e) nodes).2.2 ≠ [] ∨ (gotW root f (upToW next e) nodes).2.1 ≠ items then ([], [],130)
 else (items,next,0)
theorem gotW_whole {t : T} (h : Good t) (hn : t ≠ .nil) (f e : List UInt8) (rest : List (List UInt8)) : gotW (sumT t) f e (toldW (coverW (of f) (of e) e) t ++ rest) = (true,(allIn (itemsW t) f e,rest)):=by
 unfold gotW toldW
 rw [gath_whole _ f e _ t [] [] rest (h.okLd hn) rfl (by simp),List.nil_append,cover_items h]
 rfl
theorem goesOn_page {L : List KV} (hr : rises L) (hk : ∀ x ∈ L,x.1.length ≤ 8) (f e : List UInt8) (most : Nat) (hm : 1 ≤ most) : goesOnW (pageW L f e most).1 (pageW L f e most).2 e most = true:=by
 obtain ⟨p1,p2,p3,p4⟩:=page_spec hr hk f e most hm
 unfold goesOnW
 rw [if_neg (by rw [p2,List.length_take]; omega)]
 split
 ·rfl
 ·rename_i hne
  obtain ⟨q1,q2,q3⟩:=p4 hne
  rw [if_neg]
  ·exact decide_eq_true q3
  ·rintro (h | ⟨h1,h2⟩)
   ·exact h q1
   ·rw [q2 h1] at h2; cases h2
theorem items_key {t : T} (h : Good t) : ∀ x ∈ itemsW t,x.1.length ≤ 8:=fun x hx=>by
 obtain ⟨c1,_,_⟩:=putCode_zero (item_code h hx)
 exact (keyed_len c1).1
def pageN (t : T) (f e : List UInt8) (most : Nat) : List (List UInt8):=toldW (coverW (of f) (of (upToW (pageW (itemsW t) f e most).2 e)) (upToW (pageW (itemsW t) f e most).2 e)) t
theorem span_whole {t : T} (h : Good t) (f e : List UInt8) (most : Nat) (hm : 1 ≤ most) :
  verifyP (sumT t) f e most (pageW (itemsW t) f e most).1 (pageW (itemsW t) f e most).2 (pageN t f e most) = ((pageW (itemsW t) f e most).1,(pageW (itemsW t) f e most).2,0):=by
 have hg:=goesOn_page (rises_itemsW h) (items_key h) f e most hm
 obtain ⟨p1,p2,p3,p4⟩:=page_spec (rises_itemsW h) (items_key h) f e most hm
 unfold verifyP
 rw [if_neg (by simp [hg])]
 by_cases hn : t = .nil
 ·subst hn
  have e0 : itemsW .nil = []:=rfl
  have e1 : pageW (itemsW .nil) f e most = ([], []):=by unfold pageW allIn; rw [e0]; simp
  rw [if_pos (show sumT .nil = [] from rfl),e1]
  have e2 : pageN .nil f e most = []:=rfl
  rw [e2]
  simp
 ·rw [if_neg (fun he=>hn (sumT_empty.1 he))]
  have hw:=gotW_whole h hn f (upToW (pageW (itemsW t) f e most).2 e) []
  rw [List.append_nil] at hw
  have hw' : gotW (sumT t) f (upToW (pageW (itemsW t) f e most).2 e) (pageN t f e most) = (true,(allIn (itemsW t) f (upToW (pageW (itemsW t) f e most).2 e), [])):=hw
  rw [hw',p3]
  simp
end Trie
end Go.Proofs.YtomnlhbioijfhaaGreatDoor
