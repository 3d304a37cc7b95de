import Derived.Test.YtdkiloganbhfkaaGreatDoorJ09
import Derived.Shelf.Abstract
set_option linter.unusedSimpArgs false
set_option linter.unusedVariables false
set_option maxHeartbeats 4000000
namespace Go.Proofs.YtdkiloganbhfkaaGreatDoor
section
open Go.RowKit Go.Instr
attribute [local go_sem] ba_get ByteArray.mk_append_mk
attribute [local go_sem ↓] Go.wp_at_zero Go.wp_at_succ
namespace Trie
open Nib
def goT (may:List UInt8→Bool):T→List UInt8→List (List UInt8 × T)
 | .nil,_=> []
 | .leaf p v,pl=>if may pl then [(pl,.leaf p v)] else []
 | .ext p t,pl=>if may pl then (pl,.ext p t)::goT may t (pl++p) else []
 | .branch v kids,pl=>if may pl then (pl,.branch v kids)::(List.finRange 16).flatMap fun i=>goT may (kids i) (pl++ [hb i]) else []
structure At (pl:List UInt8) (t:T):Prop where
 wf:wf t
 fit:fit pl=true
 all:∀ q,Nib.fit q=true→look t q≠ []→(pl++q).length≤16∧(pl++q).length % 2=0∧(look t q).length≤32
theorem At.top {t:T} (h:Good t):At [] t:=⟨h.wf,rfl,fun q hq hl=>⟨(h.small q hq hl).1,(h.even q hq hl).1,(h.small q hq hl).2⟩⟩
theorem hb_fit (i:Fin 16):Nib.fit [hb i]=true:=by
 obtain ⟨_,e2⟩:=ix_of i;exact fit_cons'.2 ⟨e2,rfl⟩
theorem At.kid {pl:List UInt8} {v:List UInt8} {kids:Fin 16→T} (h:At pl (.branch v kids)) (i:Fin 16):At (pl++ [hb i]) (kids i):=by
 refine ⟨h.wf.1 i,fit_append.2 ⟨h.fit,hb_fit i⟩,fun q hq hl=> ?_⟩;obtain ⟨e1,e2⟩:=ix_of i
 have:=h.all (hb i::q) (fit_cons'.2 ⟨e2,hq⟩) (by simp only [look,hb,e1]; exact hl)
 simp only [look,hb,e1] at this;rw [List.append_assoc];exact this
theorem At.below {pl p:List UInt8} {t:T} (h:At pl (.ext p t)):At (pl++p) t:=by
 refine ⟨h.wf.2.2.2,fit_append.2 ⟨h.fit,h.wf.1⟩,fun q hq hl=> ?_⟩
 have:=h.all (p++q) (fit_append.2 ⟨h.wf.1,hq⟩) (by rw [look_ext]; exact hl)
 rw [look_ext] at this;rw [List.append_assoc];exact this
theorem At.small {pl:List UInt8} {t:T} (h:At pl t):Trie.small t:=fun q hq hl=>by
 have:=h.all q hq hl
 rw [List.length_append] at this;exact ⟨by omega,this.2.2⟩
theorem At.len {pl:List UInt8} {t:T} (h:At pl t) (hn:t≠ .nil):pl.length≤16:=by
 obtain ⟨q,g1,g2⟩:=look_some t h.wf (by cases t<;>simp_all [isNil])
 have:=(h.all q g1 g2).1
 rw [List.length_append] at this; omega
def goKids (may:List UInt8→Bool) (kids:Fin 16→T) (pl:List UInt8) (i:Nat):List (List UInt8 × T):=((List.finRange 16).take i).flatMap fun j=>goT may (kids j) (pl++ [hb j])
theorem goKids_succ (may:List UInt8→Bool) (kids:Fin 16→T) (pl:List UInt8) (i:Fin 16):goKids may kids pl (i.val+1)=goKids may kids pl i.val++goT may (kids i) (pl++ [hb i]):=by
 unfold goKids;rw [take_finRange,List.flatMap_append]; simp
theorem goKids_all (may:List UInt8→Bool) (kids:Fin 16→T) (pl:List UInt8):goKids may kids pl 16=(List.finRange 16).flatMap fun i=>goT may (kids i) (pl++ [hb i]):=by
 unfold goKids;rw [List.take_of_length_le (by simp)]
end Trie
namespace Trie
end Trie
def icells (l:List (List UInt8 × List UInt8)):List Value:=l.flatMap fun x=> [x.1,x.2]
theorem icells_snoc (l:List (List UInt8 × List UInt8)) (x:List UInt8 × List UInt8):icells (l++ [x])=icells l++ [.string ⟨x.1.toArray⟩,.string ⟨x.2.toArray⟩]:=by simp [icells]
theorem info_item:(Tryz.prog.info? 218).map (fun i=>(i.zero,i.size,i.bytes))=some (some (.agg #[ε,ε]),2,32):=by kernel_rfl
namespace Trie
theorem sum_le_sum {α:Type} (f g:α→Nat):∀ l:List α,(∀ x∈l,f x≤g x)→(l.map f).sum≤(l.map g).sum
 | [],_=>Nat.le_refl _
 |a::l,h=>by
  have h1:=h a (by simp);have h2:=sum_le_sum f g l (fun x hx=>h x (by simp [hx]));simp only [List.map_cons,List.sum_cons]; omega
theorem sum_add {α:Type} (f g:α→Nat) (l:List α):(l.map fun x=>f x+g x).sum=(l.map f).sum+(l.map g).sum:=by
 induction l with
 |nil=>rfl
 |cons a l ih=>simp only [List.map_cons,List.sum_cons,ih]; omega
theorem sum_mul {α:Type} (f:α→Nat) (n:Nat) (l:List α):(l.map fun x=>n*f x).sum=n*(l.map f).sum:=by
 induction l with
 |nil=>rfl
 |cons a l ih=>simp only [List.map_cons,List.sum_cons,ih,Nat.mul_add]
theorem filter_sum {α:Type} (p:α→Bool) (l:List α):(l.filter p).length=(l.map fun x=>if p x then 1 else 0).sum:=by
 induction l with
 |nil=>rfl
 |cons a l ih=>
  simp only [List.filter_cons,List.map_cons,List.sum_cons,←ih]
  split<;>simp_all<;>omega
theorem nodes_le (t:T):wf t→t≠ .nil→nodes t+2≤4*count t∧(isBranch t=true→nodes t+3≤4*count t):=by
 induction t with
 |nil=>intro _ h; exact absurd rfl h
 |leaf p v=>intro _ _; simp [nodes,count,isBranch]
 |ext p t ih=>
  intro h _;have hn:t≠ .nil:=fun e=>by have:=h.2.2.1; rw [e] at this; simp [isBranch] at this
  have:=(ih h.2.2.2 hn).2 h.2.2.1
  simp only [nodes,count];exact ⟨by omega,fun h=>by simp [isBranch] at h⟩
 |branch v kids ih=>
  intro h _;have h1:=sum_le_sum (fun i=>nodes (kids i)+2*(if !isNil (kids i) then 1 else 0)) (fun i=>4*count (kids i)) (List.finRange 16) (fun i _=>by
   by_cases hn:kids i= .nil
   ·simp [hn,nodes,isNil]
   ·have:=(ih i (h.1 i) hn).1
    have e:isNil (kids i)=false:=by cases hk:kids i<;>simp_all [isNil]
    simp [e]; omega)
  rw [sum_add,sum_mul,sum_mul,←filter_sum] at h1;have h2:=h.2;have h3:((List.finRange 16).filter fun i=> !isNil (kids i)).length=many kids:=rfl;have h4:((List.finRange 16).map fun i=>count (kids i)).sum=kidsCount kids:=rfl;rw [h3,h4] at h1;rw [count_branch];simp only [nodes]
  split at h2<;>rename_i hv<;>simp only [hv,if_true,if_false]<;>omega
theorem goT_len (may:List UInt8→Bool) (t:T):∀ pl,(goT may t pl).length≤nodes t:=by
 induction t with
 |nil=>intro pl; simp [goT]
 |leaf p v=>intro pl; simp only [goT,nodes]; split<;>simp
 |ext p t ih=>intro pl; simp only [goT,nodes]; split<;>simp; have:=ih (pl++p); omega
 |branch v kids ih=>
  intro pl;simp only [goT,nodes]
  split
  ·simp only [List.length_cons,List.length_flatMap]
   have:=sum_le_sum (fun i=>(goT may (kids i) (pl++ [hb i])).length) (fun i=>nodes (kids i)) (List.finRange 16) (fun i _=>ih i _)
   omega
  ·simp
theorem goT_short {t:T} (hw:wf t) (hc:count t≤20000) (may:List UInt8→Bool) (pl:List UInt8):(goT may t pl).length≤100000:=by
 have h1:=goT_len may t pl;by_cases hn:t= .nil
 ·subst hn; simp [goT]
 ·have:=(nodes_le t hw hn).1; omega
def itemsW (t:T):List (List UInt8 × List UInt8):=(items t []).map fun x=>(Nib.joined x.1,x.2)
end Trie
def ItemsEnd (w:World) (l:List (List UInt8 × List UInt8)) (e:Ending) (w':World):Prop:=
 ∃ A n c,e= .returned (.slice A n c)∧n=l.length∧w'.ownsRow w.heap.size 218 2 (.slice A n c) n (icells l)∧Below w.heap.size w w'
theorem own_lower {w:World} {base base' e size n:Nat} {v:Value} {xs:List Value} (h:w.ownsRow base e size v n xs) (hb:base'≤base):w.ownsRow base' e size v n xs:=by
 refine ⟨h.1,?_⟩;rcases h.2 with hn|⟨g,cap,cur,h1,h2,rest⟩
 ·exact .inl hn
 ·exact .inr ⟨g,cap,cur,h1,Nat.le_trans hb h2,rest⟩
def allW:List UInt8→Bool:=fun _=>true
namespace Trie
end Trie
theorem icells_at {l:List (List UInt8 × List UInt8)} {i:Nat} (h:i<l.length):(icells l)[2*i]?=some (.string ⟨l[i].1.toArray⟩)∧(icells l)[2*i+1]?=some (.string ⟨l[i].2.toArray⟩):=by
 induction l generalizing i with
 |nil=>simp at h
 |cons a l ih=>
  rcases i with _|i
  ·simp [icells]
  ·have:=ih (show i<l.length by simpa using h)
   rw [show 2*(i+1)=2*i+1+1 by omega];simpa [icells] using this
theorem icells_length (l:List (List UInt8 × List UInt8)):(icells l).length=2*l.length:=by
 induction l with
 |nil=>rfl
 |cons a l ih=>
  rw [show icells (a::l)= .string ⟨a.1.toArray⟩:: .string ⟨a.2.toArray⟩::icells l from rfl,List.length_cons,List.length_cons,ih,List.length_cons]; omega
end
section
open Go.RowKit Go.Instr
theorem take_eq_succ' {α:Type} {xs ys:List α} {i:Nat} (h1:i<xs.length) (h2:i<ys.length) (h:xs.take i=ys.take i):(xs.take (i+1)=ys.take (i+1))↔xs[i]=ys[i]:=by
 rw [List.take_succ_eq_append_getElem h1,List.take_succ_eq_append_getElem h2,h];exact ⟨fun e=>by simpa using List.append_cancel_left e,fun e=>by rw [e]⟩
theorem book_SameTexts (A B : Option Addr) (n m c d : Nat) (xs ys : List (List UInt8)) (w : World) (ha : Reads w w.heap.size 1 A n (strv xs)) (hb : Reads w w.heap.size 1 B m (strv ys)) (hn : n ≤ 1048576) (hm : m ≤ 1048576) :
    Calls Tryz.prog 48 #[.slice A n c, .slice B m d] w fun e w' => e = .returned (.bool (decide (xs = ys))) ∧ Below w.heap.size w w' := by
  have hxl : xs.length = n := by have := ha.1; rw [strv_length] at this; omega
  have hyl : ys.length = m := by have := hb.1; rw [strv_length] at this; omega
  by_cases hnm : n = m
  · subst hnm
    have hq : ((n : Int) == (n : Int)) = true := by simp
    go_enter Tryz.func48, Tryz.ntmps48
    go_wp2
    refine wp_loop_ghost_k (fun k a wr => ∀ Φ : Act → Prop, (∀ ⦃s2 s3 s4 s7 s8 s9 s0 s1 s5 s6 a0 a2 a3 a4 a5 a6 a7 a8 a9 b0 b3 b4 b5 b6 b7 b8 b9 : Value⦄ (i : Nat) (q : Bool), (i + k = n ∧ (q = true ↔ xs.take i = ys.take i) ∧ (q = false → xs ≠ ys) ∧ Below w.heap.size w wr) → Φ { tmps := #[.slice A n c, .slice B n d, s2, s3, s4, .bool q, .int .i64 i, s7, s8, s9, s0, s1, s5, s6, a0, a2, a3, a4, a5, a6, a7, a8, a9, b0, b3, b4, b5, b6, b7, b8, b9], defers := [] }) → Φ a) (n) ?_ ?_
    · refine fun Φ hΦ => hΦ (0) (true) ?_
      exact ⟨by omega, by simp, by simp, Below.refl _ _⟩
    · intro k1 a1 wr1 hI1 J1 K1 hJ1 hK1
      refine hI1 (fun a => Code.wp _ _ _ a _) ?_
      clear hI1 a1
      iterate 27 (intro _)
      intro i q hrel
      show Code.wp _ _ _ _ _
      obtain ⟨h1, h2, h3, hw⟩ := hrel
      cases q with
      | false =>
        have h3' : xs ≠ ys := by simpa using h3
        have H3 := ι h3'
        clear h3'
        clear h2 h3
        go_wp2
        go_ret
        exact ⟨ret_bool (by simpa using H3.out), hw⟩
      | true =>
        have H2 := ι h2
        clear h2 h3
        by_cases hi : i < n
        · obtain ⟨b1, o1, rfl, hl1, hc1⟩ := ha.form (by omega) (by omega)
          obtain ⟨b2, o2, rfl, hl2, hc2⟩ := hb.form (by omega) (by omega)
          have g1 := (hw.cell (p := ⟨b1, o1 + i, none⟩) hl1).trans (hc1 i (by rw [strv_length]; omega))
          have g2 := (hw.cell (p := ⟨b2, o2 + i, none⟩) hl2).trans (hc2 i (by rw [strv_length]; omega))
          simp only [strv, List.getElem_map] at g1 g2
          clear hc1 hc2
          go_wp2
          go_quiet (fail)
          go_wp2
          refine Handed.intro (n - (i + 1)) ?_ (hJ1 _ _ _ (fun Φ hΦ => hΦ (i + 1) (xs[i] == ys[i]) ?_))
          · omega
          · have hx := take_eq_succ' (xs := xs) (ys := ys) (i := i) (by omega) (by omega) (by simpa using H2.out)
            refine ⟨by omega, ?_, ?_, below_drewN hw _⟩
            · rw [hx]; simp
            · intro hq e
              subst e
              simp at hq
        · have e : i = n := by omega
          subst e
          go_wp2
          go_ret
          exact ⟨ret_bool (by have h2 : xs.take i = ys.take i := by simpa using H2.out
                              rw [List.take_of_length_le (by omega), List.take_of_length_le (by omega)] at h2
                              simpa using h2), hw⟩
  · have hq : ((n : Int) == (m : Int)) = false := by rw [beq_eq_false_iff_ne]; omega
    go_enter Tryz.func48, Tryz.ntmps48
    go_wp2
    refine wp_loop_rounds 1 ?_
    rw [rounds_succ]
    go_wp2
    go_ret
    exact ⟨ret_bool (by symm; rw [decide_eq_false_iff_not]; intro e; subst e; omega), Below.refl _ _⟩
end
section
open Go.RowKit Go.Instr
attribute [local go_sem] ba_get ByteArray.mk_append_mk
attribute [local go_sem ↓] Go.wp_at_zero Go.wp_at_succ
structure Act10 where
 kind:Int
 key:List UInt8
 value:List UInt8
namespace Trie
def actW (t:T) (a:Act10):T:=
 if 1<a.kind then (if (getW t a.key).2=0 then del t (Nib.of a.key) else t)
 else (if putCode a.key a.value=0 then put t (Nib.of a.key) a.value else t)
def madeW (L:List Act10):T:=(L.take 30).foldl actW .nil
theorem getW_code {t:T} {key:List UInt8} (h:(getW t key).2=0):keyedW key=true∧look t (Nib.of key)≠ []:=by
 unfold getW at h
 split at h
 ·rename_i hk
  split at h
  ·cases h
  ·rename_i hv;exact ⟨hk,fun e=>hv (by rw [e]; rfl)⟩
 ·cases h
end Trie
end
end Go.Proofs.YtdkiloganbhfkaaGreatDoor