import Derived.Test.YtomnlhbioijfhaaGreatDoorJ20
import Derived.Test.YtomnlhbioijfhaaGreatDoorJ11
import Derived.Test.YtomnlhbioijfhaaGreatDoorJ02
import Derived.Test.YtomnlhbioijfhaaGreatDoorJ12
import Derived.Test.YtomnlhbioijfhaaGreatDoorJ19
import Derived.Maps.AppendAt
import Derived.Test.YtomnlhbioijfhaaGreatDoorJ01
set_option linter.unusedSimpArgs false
set_option linter.unusedVariables false
namespace Go.Proofs.YtomnlhbioijfhaaGreatDoor
open Go.RowKit Go.Instr
attribute [local go_sem] ba_get ByteArray.mk_append_mk
attribute [local go_sem ↓] Go.wp_at_zero Go.wp_at_succ
theorem few_cell {w : World} {B : Nat} {A : Option Addr} {l : List (List UInt8)} (h : Reads w B 1 A l.length (strv l)) {i : Nat} (hi : i < l.length) :
  ∃ ad off,A = some ⟨ad,off,none⟩ ∧ ad < B ∧ ∀ w',Below B w w' → w'.cell? ⟨ad,off + i,none⟩ = some (.string ⟨l[i].toArray⟩):=by
 obtain ⟨ad,off,rfl,hbl,hcell⟩:=h.form (by omega) (by omega)
 refine ⟨ad,off,rfl,hbl,fun w' hb => ?_⟩
 have q:=hcell i (by rw [strv_length]; exact hi)
 have e:=strv_at hi
 rw [List.getElem?_eq_getElem (by rw [strv_length]; exact hi)] at e
 rw [Option.some.inj e] at q
 exact (hb.cell (p:=⟨ad,off + i,none⟩) hbl).trans q
def fewW (l : List (List UInt8)) (n each : Nat) : Bool:=decide (l.length ≤ n) && l.all fun s=>decide (s.length ≤ each)
set_option maxRecDepth 100000 in
theorem book_Few (w : World) (A : Option Addr) (c : Nat) (l : List (List UInt8)) (n each : Nat) (HR : Reads w w.heap.size 1 A l.length (strv l)) (hn : n ≤ 100000) (he : each ≤ 100000) :
  Calls Tryz.prog 30 #[.slice A l.length c,.int .i64 (n : Int),.int .i64 (each : Int)] w (Ret w (.bool (fewW l n each))):=by
 have HP : Hid (∀ r w',fewW l n each = r → Below w.heap.size w w' → Ret w (.bool (fewW l n each)) (Ending.returned (.bool r)) w'):=Lib.hid (fun r W' a1 a2=>⟨by rw [a1],a2⟩)
 have HC : Hid (fewW l n each = (decide (l.length ≤ n) && l.all fun s=>decide (s.length ≤ each))):=Lib.hid rfl
 generalize Ret w (.bool (fewW l n each)) = P at HP ⊢
 generalize fewW l n each = lw at *
 have HRR:=Lib.hid HR
 clear HR
 by_cases hln : n < l.length
 ·have hI : (n : Int) < l.length:=by omega
  have HF : Hid (lw = false):=Lib.hid (by rw [HC.out,decide_eq_false (by omega)]; rfl)
  go_enter Tryz.func30,Tryz.ntmps30
  go_wp2_with fail
  exact HP.out _ _ HF.out (Below.refl _ _)
 ·have hI : ((n : Int) < l.length) = False:=by simp; omega
  have HC2 : Hid (lw = l.all fun s=>decide (s.length ≤ each)):=Lib.hid (by rw [HC.out,decide_eq_true (by omega)]; rfl)
  have hln' : l.length ≤ n:=by omega
  clear HC hln
  go_enter Tryz.func30,Tryz.ntmps30
  go_wp2_with fail
  refine wp_loop_ghost_k (fun k a wr => ∀ Φ : Act → Prop,(∀ (s1 s3 s4 s5 s6 s8 s9 s10 s11 s12 s13 s14 s15 s16 s17 s18 s19 s20 s21 s22 s23 s24 : Value) (i : Nat),(i + k = l.length ∧ (l.all fun s=>decide (s.length ≤ each)) = ((l.drop i).all fun s=>decide (s.length ≤ each)) ∧ Below w.heap.size w wr) → Φ { tmps:=#[.slice A l.length c,s1,.int .i64 (each : Int),s3,s4,s5,s6,.int .i64 (i : Int),s8,s9,s10,s11,s12,s13,s14,s15,s16,s17,s18,s19,s20,s21,s22,s23,s24],defers := [] }) → Φ a) (l.length) ?_ ?_
  ·refine fun Φ hΦ=>hΦ _ _ _ _ _ _ _ _ _ _ _ _ _ _ _ _ _ _ _ _ _ _ (0) ?_
   exact ⟨by omega,rfl,Below.refl _ _⟩
  ·intro k1 a1 wr1 hI1 J1 K1 hJ1 hK1
   refine hI1 (fun a=>Code.wp _ _ _ a _) ?_
   clear hI1 a1
   intro s0 s1 s2 s3 s4 s5 s6 s7 s8 s9 s10 s11 s12 s13 s14 s15 s16 s17 s18 s19 s20 s21 i hrel
   show Code.wp _ _ _ _ _
   obtain ⟨h1,h2,hb⟩:=hrel
   by_cases hi : i < l.length
   ·obtain ⟨ad,off,rfl,hbl,hcell⟩:=few_cell HRR.out hi
    have r0:=hcell _ hb
    have hd : l.drop i = l[i] :: l.drop (i + 1):=List.drop_eq_getElem_cons hi
    have HI:=Lib.hid (And.intro h1 (And.intro h2 (And.intro hb hd)))
    have hi0 : (i : Int) < l.length:=by omega
    have hi1 : (0 : Int) ≤ i:=by omega
    clear h1 h2 hb hd hcell hbl
    generalize l[i] = x at *
    by_cases hk : each < x.length
    ·have hk' : (each : Int) < x.length:=by omega
     have HF : Hid (lw = false):=Lib.hid (by rw [HC2.out,HI.out.2.1,HI.out.2.2.2,List.all_cons,decide_eq_false (by omega)]; rfl)
     clear hk
     go_wp2_with fail
     exact HP.out _ _ HF.out HI.out.2.2.1
    ·have hk' : ((each : Int) < x.length) = False:=by simp; omega
     have HF : Hid (decide (x.length ≤ each) = true):=Lib.hid (decide_eq_true (by omega))
     clear hk
     go_wp2_with fail
     refine Handed.intro (l.length - (i + 1)) ?_ (hJ1 _ _ _ (fun Φ hΦ=>hΦ _ _ _ _ _ _ _ _ _ _ _ _ _ _ _ _ _ _ _ _ _ _ (i + 1) ?_))
     ·have:=HI.out.1; omega
     exact ⟨by have:=HI.out.1; omega,by rw [HI.out.2.1,HI.out.2.2.2,List.all_cons,HF.out]; rfl,HI.out.2.2.1⟩
   ·have hi0 : ((i : Int) < l.length) = False:=by simp; omega
    have HI:=Lib.hid (And.intro h2 (And.intro hb (show l.drop i = [] from List.drop_of_length_le (by omega))))
    clear h1 h2 hb
    go_wp2_with fail
    exact HP.out _ _ (by rw [HC2.out,HI.out.1,HI.out.2.2]; rfl) HI.out.2.1
end Go.Proofs.YtomnlhbioijfhaaGreatDoor
namespace Go.Proofs.YtomnlhbioijfhaaGreatDoor
open Go.RowKit Go.Instr Go.ChangeMaps
attribute [local go_sem] ba_get ByteArray.mk_append_mk
theorem KnotP.grown {w w1 : World} {k : Nat} {t : Trie.T} {x : Value} (h : KnotP w t x) (hg : w.grownBy w1 (some k)) (hk : ∀ cs, ¬ Blk w k 120 cs) : KnotP w1 t x:=by
 induction h with
 | nil=>exact .nil
 | knot t b ps h1 h2 h3 _ ih=>exact .knot t b ps h1 h2 (h3.grown hg (fun e=>by injection e with e; subst e; exact hk _ h3)) ih
theorem BMap.no_blk {w : World} {b : Nat} {D : List Trie.KV} (h : BMap w b D) (t : TypeId) (cs : Array Value) : ¬ Blk w b t cs:=by
 obtain ⟨vs,⟨E,cl,h1,_⟩,_⟩:=h.ex
 intro h2
 unfold Blk at h2
 rw [h2] at h1
 cases h1
theorem TrieP.grown {w w1 : World} {b : Nat} {D : List Trie.KV} {t : Trie.T} {v : Value} (h : TrieP w t v) (hm : BMap w b D) (hg : w.grownBy w1 (some b)) : TrieP w1 t v:=by
 obtain ⟨h1,g,x,h2,h3,h4⟩:=h
 exact ⟨h1,g,x,h2,h3.grown hg (fun e=>by injection e with e; subst e; exact hm.no_blk _ _ h3),h4.grown hg (fun cs=>hm.no_blk _ cs)⟩
theorem BMap.tbl {w w1 : World} {b : Nat} {D : List Trie.KV} (h : BMap w b D) (hT : Tbl w) (hg : w.grownBy w1 (some b)) : Tbl w1:=by
 refine hT.grown hg ?_
 obtain ⟨vs,hm,_⟩:=h.ex
 refine Nat.pos_of_ne_zero fun e => ?_
 subst e
 have:=hT 0 (by omega)
 rw [hm.no_cell _ rfl] at this
 cases this
theorem Reads.off {w w1 : World} {b B n : Nat} {D : List Trie.KV} {A : Option Addr} {xs : List Value} (hr : Reads w B 1 A n xs) (hB : B ≤ w.heap.size) (h : BMap w b D) (hg : w.grownBy w1 (some b)) : Reads w1 B 1 A n xs:=by
 obtain ⟨vs,hm,_⟩:=h.ex
 exact hr.off_map hm hB hg
end Go.Proofs.YtomnlhbioijfhaaGreatDoor
namespace Go.Proofs.YtomnlhbioijfhaaGreatDoor
namespace Trie
def itemLd (long m : Nat) : Nat × Nat:=if long = 0 ∨ long % 2 = 1 then (m,4) else if 1024 < m + 1 then (m + 1,2) else (m + 1,0)
def kidAt (n : Nd) (pl : List UInt8) (i : Nat) : List UInt8:=if n.1 = 2 then pl ++ n.2.1 else pl ++ [UInt8.ofNat i]
def manyLd (n : Nd) (pl : List UInt8) (m : Nat) : Nat × Nat:=if n.2.2.1 = [] then (m,0) else itemLd (pl.length + n.2.1.length) m
end Trie
end Go.Proofs.YtomnlhbioijfhaaGreatDoor
namespace Go.Proofs.YtomnlhbioijfhaaGreatDoor
open Nib
namespace Trie
def nd (t : T) : Nd:=(kindT t,pathT t,valT t,sumsT t)
theorem decN_text {t : T} (hn : t ≠ .nil) (hw : wf t) (hs : small t) : decN (textT t) = (nd t,0) :=
 decN_of (nd t) (sumsT_length t) (fineT hn hw hs)
theorem sum_text {t : T} (hn : t ≠ .nil) : shaW (1 :: textT t) = sumT t:=(sumT_eq hn).symm
theorem sumT_empty {t : T} : sumT t = [] ↔ t = .nil:=by
 constructor
 ·intro h
  refine Classical.byContradiction fun hn => ?_
  have:=sumT_len hn
  rw [h] at this
  cases this
 ·intro h; subst h; rfl
theorem trailW_iff {path pl : List UInt8} : trailW path pl = true ↔ path = pl ++ path.drop pl.length:=by
 unfold trailW
 rw [decide_eq_true_eq]
 exact prefix_common
theorem goT_no (may : List UInt8 → Bool) (t : T) (pl : List UInt8) (h : may pl = false) : goT may t pl = []:=by
 cases t <;> simp [goT,h]
end Trie
end Go.Proofs.YtomnlhbioijfhaaGreatDoor
namespace Go.Proofs.YtomnlhbioijfhaaGreatDoor
namespace Trie
structure OkLd (pl : List UInt8) (t : T) : Prop where
 nn : t ≠ .nil
 wf : wf t
 all : ∀ q,Nib.fit q = true → look t q ≠ [] → (pl ++ q).length ≤ 16 ∧ (pl ++ q).length % 2 = 0 ∧ pl ++ q ≠ [] ∧ (look t q).length ≤ 32
theorem OkLd.small {pl : List UInt8} {t : T} (h : OkLd pl t) : small t:=fun q hq hl=>by
 have:=h.all q hq hl
 rw [List.length_append] at this
 exact ⟨by omega,this.2.2.2⟩
end Trie
end Go.Proofs.YtomnlhbioijfhaaGreatDoor
