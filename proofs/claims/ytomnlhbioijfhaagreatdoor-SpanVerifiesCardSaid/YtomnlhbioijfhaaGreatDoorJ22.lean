import Derived.Test.YtomnlhbioijfhaaGreatDoorJ21
import Derived.Test.YtomnlhbioijfhaaGreatDoorJ19
import Derived.Test.YtomnlhbioijfhaaGreatDoorJ02
import Derived.Test.YtomnlhbioijfhaaGreatDoorJ20
set_option linter.unusedSimpArgs false
set_option linter.unusedVariables false
namespace Go.Proofs.YtomnlhbioijfhaaGreatDoor
namespace Trie
theorem rep_getD (n i : Nat) : (List.replicate n ([] : List UInt8)).getD i [] = []:=by
 rw [List.getD_eq_getElem?_getD,List.getElem?_replicate]
 split <;> rfl
end Trie
end Go.Proofs.YtomnlhbioijfhaaGreatDoor
namespace Go.Proofs.YtomnlhbioijfhaaGreatDoor
open Go.RowKit Go.Instr
attribute [local go_sem] ba_get ByteArray.mk_append_mk
attribute [local go_sem ↓] Go.wp_at_zero Go.wp_at_succ
theorem blk_set0 {w : World} {g : Nat} {t : TypeId} {u v : Value} (h : Blk w g t #[u]) : Blk (w.setCell ⟨g,0,none⟩ v) g t #[v]:=h.set_ 0 v
theorem blk_new' (w : World) (t : TypeId) (cs : Array Value) {g : Nat} (h : g = w.heap.size) : Blk (w.alloc (.cells cs t)) g t cs:=by subst h; exact Blk.new w t cs
def CoverIn (w : World) (low high end_ : List UInt8) (b5 : Nat) (p7 p8 : Value) (wx : World) : Prop :=
 ∃ b7 b8,p7 = .pointer (some ⟨b7,0,none⟩) ∧ p8 = .pointer (some ⟨b8,0,none⟩) ∧ Blk wx b7 9 #[.string ⟨low.toArray⟩] ∧ Blk wx b5 9 #[.string ⟨end_.toArray⟩] ∧ Blk wx b8 9 #[.string ⟨high.toArray⟩] ∧ Below w.heap.size w wx
set_option maxRecDepth 100000 in
set_option maxHeartbeats 2000000 in
theorem trie_Cover (w : World) (t : Trie.T) (v : Value) (h : TrieP w t v) (hc : Trie.count t ≤ 20000) (from_ end_ : List UInt8) (h1 : from_.length ≤ 1048576) (h2 : end_.length ≤ 1048576) :
  Calls Tryz.prog 76 #[v,.string ⟨from_.toArray⟩,.string ⟨end_.toArray⟩] w (TextsEnd w (toldW (coverW (Nib.of from_) (Nib.of end_) end_) t)):=by
 have HP : Hid (∀ A n c w',n = (toldW (coverW (Nib.of from_) (Nib.of end_) end_) t).length → w'.ownsRow w.heap.size 9 1 (.slice A n c) n (strv (toldW (coverW (Nib.of from_) (Nib.of end_) end_) t)) → Below w.heap.size w w' → TextsEnd w (toldW (coverW (Nib.of from_) (Nib.of end_) end_) t) (.returned (.slice A n c)) w'):=Lib.hid (fun A n c w' h1 h2 h3=>⟨A,n,c,rfl,h1,h2,h3⟩)
 have HO1 : Hid (∀ W,Calls Tryz.prog 36 #[.string ⟨from_.toArray⟩] W fun e w'=>e = .returned (.string ⟨(Nib.of from_).toArray⟩) ∧ Below W.heap.size W w'):=Lib.hid (fun W=>nib_Of from_ W h1)
 have HO2 : Hid (∀ W,Calls Tryz.prog 36 #[.string ⟨end_.toArray⟩] W fun e w'=>e = .returned (.string ⟨(Nib.of end_).toArray⟩) ∧ Below W.heap.size W w'):=Lib.hid (fun W=>nib_Of end_ W h2)
 have HT : Hid (∀ W b7 b5 b8,Below w.heap.size w W → Blk W b7 9 #[.string ⟨(Nib.of from_).toArray⟩] → Blk W b5 9 #[.string ⟨end_.toArray⟩] → Blk W b8 9 #[.string ⟨(Nib.of end_).toArray⟩] → Calls Tryz.prog 108 #[v,.func (.func 109) #[] #[.pointer (some ⟨b7,0,none⟩),.pointer (some ⟨b5,0,none⟩),.pointer (some ⟨b8,0,none⟩)]] W (TextsEnd w (toldW (coverW (Nib.of from_) (Nib.of end_) end_) t))) :=
  Lib.hid (fun W b7 b5 b8 k0 k7 k5 k8=>(trie_told W t v (h.next k0) hc _ _ _ (may_cover W (Nib.of from_) (Nib.of end_) end_ (by rw [Nib.of_length]; omega) (by rw [Nib.of_length]; omega) b7 b5 b8 k7 k5 k8)).mono (fun e w' he=>he.base k0))
 generalize TextsEnd w (toldW (coverW (Nib.of from_) (Nib.of end_) end_) t) = P at HP ⊢
 obtain ⟨_,b,x,rfl,_,_⟩:=h
 clear hc h1 h2
 generalize Nib.of from_ = low at *
 generalize Nib.of end_ = high at *
 go_enter Tryz.func76,Tryz.ntmps76
 go_upto_region 1 with fail
 have F0 : Hid (Blk (w.alloc (.cells #[.string ⟨end_.toArray⟩] 9)) w.heap.size 9 #[.string ⟨end_.toArray⟩] ∧ Below w.heap.size w (w.alloc (.cells #[.string ⟨end_.toArray⟩] 9))):=Lib.hid ⟨Blk.new _ _ _,by go_grown⟩
 generalize w.alloc (.cells #[.string ⟨end_.toArray⟩] 9) = W0 at F0 ⊢
 have c5 : W0.cell? ⟨w.heap.size,0,none⟩ = some (.string ⟨end_.toArray⟩):=F0.out.1.cell 0
 have hal : ∀ o : Obj,(W0.alloc o).cell? ⟨w.heap.size,0,none⟩ = some (.string ⟨end_.toArray⟩):=fun o=>(((Below.refl _ W0).alloc (Nat.le_refl _) o).cell (p:=⟨w.heap.size,0,none⟩) F0.out.1.lt).trans c5
 go_cut [7,8] (fun s7 s8 wx=>CoverIn w low high end_ w.heap.size s7 s8 wx)
 case first =>
  have HLt0:=Lib.hid F0.out.1.lt
  have hal2 : ∀ o o2 : Obj,((W0.alloc o).alloc o2).cell? ⟨w.heap.size,0,none⟩ = some (.string ⟨end_.toArray⟩):=fun o o2=>((((Below.refl _ W0).alloc (Nat.le_refl _) o).alloc (by simp) o2).cell (p:=⟨w.heap.size,0,none⟩) F0.out.1.lt).trans c5
  have hlt0:=F0.out.1.lt
  go_region_held3 (fun w'=>w'.cell? ⟨w.heap.size,0,none⟩ = some (.string ⟨end_.toArray⟩)) (first | go_keep | assumption | (simp [*]; done) | (repeat (first | assumption | (rw [World.cell?_alloc_lt _ _ _ (by simp; omega)]) | (rw [World.cell?_setCell_other _ _ _ _ (by intro e; injection e with e; omega)])))) (first
   | (go_at_call 36; ((with_reducible refine (HO1.out _).mono ?_); rintro e w1 ⟨rfl,hb1⟩; have hz1:=hb1.size; (try simp only [World.size_alloc,World.size_drew] at hz1); (try have q5 : W0.heap.size < w1.heap.size:=(by omega)); (try have q6 : W0.heap.size + 1 < w1.heap.size:=(by omega)); have q0 : w.heap.size < w1.heap.size:=(by omega); obtain ⟨hc1,hf1⟩:=bcell hb1; (try simp only [World.size_alloc,World.size_drew] at hc1 hf1); have d5 : w1.cell? ⟨w.heap.size,0,none⟩ = some (.string ⟨end_.toArray⟩):=(hb1.cell (p:=⟨w.heap.size,0,none⟩) (by simp; omega)).trans (by first | exact c5 | exact hal _ | exact hal2 _ _)))
   | (go_at_call 36; ((with_reducible refine (HO2.out _).mono ?_); rintro e w2 ⟨rfl,hb2⟩; have hz2:=hb2.size; (try simp only [World.size_alloc,World.size_drew] at hz2); (try have q1 : w1.heap.size < w2.heap.size:=(by omega)); (try have q2 : w1.heap.size + 1 < w2.heap.size:=(by omega)); (try have q3 : W0.heap.size < w2.heap.size:=(by omega)); (try have q4 : W0.heap.size + 1 < w2.heap.size:=(by omega)); have q9 : w.heap.size < w2.heap.size:=(by omega); obtain ⟨hc2,hf2⟩:=bcell hb2; (try simp only [World.size_alloc,World.size_drew] at hc2 hf2); have d6 : w2.cell? ⟨w.heap.size,0,none⟩ = some (.string ⟨end_.toArray⟩):=(hb2.cell (p:=⟨w.heap.size,0,none⟩) (by simp; omega)).trans (by first | assumption | (simp [*]; done)))))
  all_goals go_wp2
  all_goals go_meet
  all_goals refine ⟨_,_,rfl,rfl, ?_, ?_, ?_, ?_⟩
  all_goals repeat' (first
   | (with_reducible exact F0.out.1)
   | (with_reducible exact F0.out.2)
   | (with_reducible exact Blk.new _ _ _)
   | (with_reducible refine Blk.drew ?_)
   | (with_reducible refine blk_set0 (u:=.string ⟨#[]⟩) ?_)
   | (with_reducible refine Blk.far ?_ (by first | omega | (simp only [World.size_alloc,World.size_drew,World.size_setCell]; omega)) _)
   | ((with_reducible apply blk_new'); (first | rfl | (simp only [World.size_alloc,World.size_drew,World.size_setCell]; done)))
   | (with_reducible refine Blk.alloc ?_ _)
   | (with_reducible refine Blk.below ?_ hb2 (by first | omega | (simp only [World.size_alloc,World.size_drew,World.size_setCell]; omega)))
   | (with_reducible refine Blk.below ?_ hb1 (by first | omega | (simp only [World.size_alloc,World.size_drew,World.size_setCell]; omega)))
   | (with_reducible refine Below.drew ?_)
   | (with_reducible refine Below.alloc ?_ (by first | omega | (simp only [World.size_alloc,World.size_drew,World.size_setCell]; omega)) _)
   | (with_reducible refine Below.setCell ?_ (by first | omega | (simp only [World.size_alloc,World.size_drew,World.size_setCell]; omega)) _)
   | (with_reducible refine Below.trans ?_ (hb2.mono (by first | omega | (simp only [World.size_alloc,World.size_drew,World.size_setCell]; omega))))
   | (with_reducible refine Below.trans ?_ (hb1.mono (by first | omega | (simp only [World.size_alloc,World.size_drew,World.size_setCell]; omega)))))
 case rest =>
  obtain ⟨b7,b8,h7,h8,k7,k5,k8,kb⟩:=hcut
  subst h7
  subst h8
  have HC:=Lib.hid (And.intro k7 (And.intro k5 (And.intro k8 kb)))
  clear k7 k5 k8 kb c5 hal F0
  go_wp2_with (go_at_call 108; refine (HT.out _ b7 w.heap.size b8 HC.out.2.2.2 HC.out.1 HC.out.2.1 HC.out.2.2.1).mono ?_; rintro e w2 ⟨A,n,c,rfl,h1,h2,h3⟩; have HH:=Lib.hid (And.intro h1 (And.intro h2 h3)); clear h1 h2 h3)
  exact HP.out _ _ _ _ HH.out.1 HH.out.2.1 HH.out.2.2
end Go.Proofs.YtomnlhbioijfhaaGreatDoor
namespace Go.Proofs.YtomnlhbioijfhaaGreatDoor
theorem trail_cover (key a b : List UInt8) (h1 : Op.bytesLess key a = false) (h2 : b = [] ∨ Op.bytesLess key b = true) (pl : List UInt8) (h : trailW (Nib.of key) pl = true) : coverW (Nib.of a) (Nib.of b) b pl = true:=by
 have hp : Nib.of key = pl ++ (Nib.of key).drop pl.length:=Trie.prefix_common.1 (of_decide_eq_true h)
 have g1 : 0 ≤ Nib.side pl (Nib.of a):=by
  rcases Nib.side_cases pl (Nib.of a) with e | e | e
  ·have:=(Nib.side_below ((Nib.of key).drop pl.length) e).1
   rw [← hp,Nib.blt_of,h1] at this
   cases this
  ·omega
  ·omega
 have g2 : b = [] ∨ Nib.side pl (Nib.of b) ≤ 0:=by
  rcases h2 with h2 | h2
  ·exact .inl h2
  ·refine .inr ?_
   rcases Nib.side_cases pl (Nib.of b) with e | e | e
   ·omega
   ·omega
   ·have:=Nib.side_above ((Nib.of key).drop pl.length) e
    rw [← hp,Nib.blt_of,h2] at this
    cases this
 simp only [coverW,Bool.and_eq_true,Bool.or_eq_true,decide_eq_true_eq]
 exact ⟨g1,g2.imp (fun e=>by rw [e]; rfl) id⟩
namespace Trie
open Nib
def inK (f e k : List UInt8) : Bool := !Op.bytesLess k f && (decide (e = []) || Op.bytesLess k e)
abbrev Gst:=List KV × List (List UInt8)
def kidsGa (F : List UInt8 → List UInt8 → Gst → Bool × Gst) (K : List (List UInt8)) (at_ : Nat → List UInt8) : Nat → Gst → Bool × Gst
 | 0,st=>(true,st)
 | n + 1,st=>if K.getD (15 - n) [] = [] then kidsGa F K at_ n st
  else if (F (K.getD (15 - n) []) (at_ (15 - n)) st).1 = true then kidsGa F K at_ n (F (K.getD (15 - n) []) (at_ (15 - n)) st).2
  else (false,(F (K.getD (15 - n) []) (at_ (15 - n)) st).2)
def itemGa (f e path value : List UInt8) (l : List KV) : Bool × List KV :=
 if (key path).2 ≠ 0 ∨ (key path).1 = [] ∨ 16 < path.length then (false,l) else (true,if inK f e (key path).1 = true then l ++ [((key path).1,value)] else l)
def ownGa (f e : List UInt8) (n : Nd) (pl : List UInt8) (l : List KV) : Bool × List KV:=if n.2.2.1 = [] then (true,l) else itemGa f e (pl ++ n.2.1) n.2.2.1 l
def gathW (may : List UInt8 → Bool) (f e : List UInt8) : Nat → List UInt8 → List UInt8 → Gst → Bool × Gst
 | 0,_,_,st=>(false,st)
 | n + 1,sum,pl,st=>if may pl = false then (true,st)
  else match st.2 with
   | []=>(false,st)
   | x :: left =>
    if shaW (1 :: x) ≠ sum ∨ (decN x).2 ≠ 0 then (false,(st.1,left))
    else if (ownGa f e (decN x).1 pl st.1).1 = false then (false,((ownGa f e (decN x).1 pl st.1).2,left))
    else kidsGa (gathW may f e n) (decN x).1.2.2.2 (kidAt (decN x).1 pl) 16 ((ownGa f e (decN x).1 pl st.1).2,left)
theorem gathW_no (may : List UInt8 → Bool) (f e : List UInt8) (n : Nat) (sum pl : List UInt8) (st : Gst) (h : may pl = false) : gathW may f e (n + 1) sum pl st = (true,st):=by
 rw [gathW,if_pos h]
theorem gathW_nil (may : List UInt8 → Bool) (f e : List UInt8) (n : Nat) (sum pl : List UInt8) (l : List KV) (h : may pl = true) : gathW may f e (n + 1) sum pl (l, []) = (false,(l, [])):=by
 rw [gathW,if_neg (by simp [h])]
theorem gathW_cons (may : List UInt8 → Bool) (f e : List UInt8) (n : Nat) (sum pl : List UInt8) (l : List KV) (x : List UInt8) (left : List (List UInt8)) (h : may pl = true) : gathW may f e (n + 1) sum pl (l,x :: left) =
  if shaW (1 :: x) ≠ sum ∨ (decN x).2 ≠ 0 then (false,(l,left))
    else if (ownGa f e (decN x).1 pl l).1 = false then (false,((ownGa f e (decN x).1 pl l).2,left))
    else kidsGa (gathW may f e n) (decN x).1.2.2.2 (kidAt (decN x).1 pl) 16 ((ownGa f e (decN x).1 pl l).2,left):=by
 rw [gathW,if_neg (by simp [h])]
end Trie
end Go.Proofs.YtomnlhbioijfhaaGreatDoor
namespace Go.Proofs.YtomnlhbioijfhaaGreatDoor
open Go.RowKit Go.Instr
attribute [local go_sem] ba_get ByteArray.mk_append_mk
theorem item_cells {w : World} {B : Nat} {A : Option Addr} {l : List Trie.KV} (h : Reads w B 2 A l.length (icells l)) {i : Nat} (hi : i < l.length) :
  ∃ ad off,A = some ⟨ad,off,none⟩ ∧ ad < B ∧ ∀ w',Below B w w' → w'.cell? ⟨ad,off + i * 2,none⟩ = some (.string ⟨l[i].1.toArray⟩) ∧ w'.cell? ⟨ad,off + i * 2 + 1,none⟩ = some (.string ⟨l[i].2.toArray⟩):=by
 obtain ⟨ad,off,rfl,hbl,hcell⟩:=h.form (by omega) (by omega)
 have ic:=icells_at hi
 have hil:=icells_length l
 have e0 : (icells l)[2 * i]'(by omega) = .string ⟨l[i].1.toArray⟩:=by
  have:=ic.1; rw [List.getElem?_eq_getElem (by omega)] at this; exact Option.some.inj this
 have e1 : (icells l)[2 * i + 1]'(by omega) = .string ⟨l[i].2.toArray⟩:=by
  have:=ic.2; rw [List.getElem?_eq_getElem (by omega)] at this; exact Option.some.inj this
 refine ⟨ad,off,rfl,hbl,fun w' hb=>⟨?_, ?_⟩⟩
 ·have q0:=hcell (2 * i) (by omega)
  rw [e0] at q0
  rw [show i * 2 = 2 * i by omega]
  exact (hb.cell (p:=⟨ad,off + 2 * i,none⟩) hbl).trans q0
 ·have q1:=hcell (2 * i + 1) (by omega)
  rw [e1] at q1
  rw [show off + i * 2 + 1 = off + (2 * i + 1) by omega]
  exact (hb.cell (p:=⟨ad,off + (2 * i + 1),none⟩) hbl).trans q1
theorem ref10_Keyed (key : List UInt8) (hl : key.length ≤ 9223372036854775807) (w : World) :
  Calls Tryz.prog 86 #[.string ⟨key.toArray⟩] w fun e w'=>e = .returned (.bool (Trie.keyedW key)) ∧ w = w':=by
 by_cases h0 : key = []
 ·subst h0
  go_enter Tryz.func86,Tryz.ntmps86
  go_wp2
  go_ret
  exact ⟨rfl,rfl⟩
 ·have h1 : 1 ≤ key.length:=List.length_pos_iff.2 h0
  have hR : Hid (Trie.keyedW key = decide ((key.length : Int) ≤ 8)):=Lib.hid (by
   rw [Trie.keyedW,Bool.eq_iff_iff]; simp [h0]; omega)
  have h2 : (1 : Int) ≤ key.length:=by omega
  by_cases h8 : key.length ≤ 8
  ·have h3 : (key.length : Int) ≤ 8:=by omega
   have hR2:=Lib.hid (hR.out.trans (decide_eq_true h3))
   clear h0 hR
   go_enter Tryz.func86,Tryz.ntmps86
   go_wp2
   go_ret
   exact ⟨ret_bool hR2.out.symm,rfl⟩
  ·have h3 : ((key.length : Int) ≤ 8) = False:=by simp; omega
   have hR2:=Lib.hid (hR.out.trans (decide_eq_false (by simp [h3])))
   clear h0 hR
   go_enter Tryz.func86,Tryz.ntmps86
   go_wp2
   go_ret
   exact ⟨ret_bool hR2.out.symm,rfl⟩
end Go.Proofs.YtomnlhbioijfhaaGreatDoor
