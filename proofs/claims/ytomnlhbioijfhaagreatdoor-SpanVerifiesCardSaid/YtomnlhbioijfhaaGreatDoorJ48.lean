import Derived.Test.YtomnlhbioijfhaaGreatDoorJ46
import Derived.Test.YtomnlhbioijfhaaGreatDoorJ47
set_option linter.unusedSimpArgs false
set_option linter.unusedVariables false
namespace Go.Proofs.YtomnlhbioijfhaaGreatDoor
open Go.ChangeShapes Go.WideShapes Go.ChangeAt Go.RowKit Go.ChangeMaps Go.Joins Go.Deep
theorem slice_of {H : Type} {enc : TypeId × Value → H} {P : Program} {w : World} {base : Nat} {spare : Nat → Bool} {held : Bool} {t e : TypeId} {fuel : Nat} {k : Value} {x : DataW H × List MemPlace} (ht : P.underlying t = some (.slice e))
  (h : DataW.trod enc P w base spare held fuel t [k] = some x) : ∃ A n c,k = .slice A n c:=by
 rcases open_slice ht h with ⟨e,_⟩ | ⟨a,len,cap,m,n,D,Pl,e,_⟩
 ·injection e with e _
  exact ⟨_,_,_,e⟩
 ·injection e with e _
  exact ⟨_,_,_,e⟩
set_option maxRecDepth 100000 in
theorem open_page {H : Type} {enc : TypeId × Value → H} {W : World} {r : Reach} {b0 : Nat} {v : Value} {d : DataW H} {p : List MemPlace} (hv : Value.okWide Tryz.prog W r b0 27 v) (h : DataW.Trod enc Tryz.prog W 0 (fun _=>true) true 27 v d p) :
  ∃ (A : Option Addr) (items : List (List UInt8 × List UInt8)) (c : Nat) (nx : List UInt8) (B : Option Addr) (nodes : List (List UInt8)) (m : Nat),v = .agg #[.slice A items.length c,.string ⟨nx.toArray⟩,.slice B nodes.length m] ∧ Reads W W.heap.size 2 A items.length (icells items) ∧ Reads W W.heap.size 1 B nodes.length (strv nodes) ∧ nodes.length ≤ m:=by
 obtain ⟨k0,k1,k2,y0,y1,y2,n,rfl,_,_,t0,t1,t2⟩:=open_agg3 Tryz.underlying27 (by kernel_rfl) (by kernel_rfl) hv h
 obtain ⟨s1,e1,_⟩:=DataW.trod_string Tryz.underlying9 t1
 injection e1 with e1
 subst e1
 obtain ⟨A,n0,c,rfl⟩:=slice_of Tryz.underlying24 t0
 obtain ⟨B,n2,m,rfl⟩:=slice_of Tryz.underlying25 t2
 obtain ⟨L,hl,HR,_⟩:=open_items t0
 obtain ⟨N,hn,HN,_,hc⟩:=open_texts t2
 subst hl
 subst hn
 exact ⟨A,L,c,s1.data.toList,B,N,m,rfl,HR,HN,hc⟩
set_option maxRecDepth 100000 in
theorem page_types : Tryz.prog.cellTypes Tryz.prog.depth 27 = some [24,9,25]:=by kernel_rfl
set_option maxRecDepth 100000 in
theorem page_old {W : World} {r : Reach} {b0 : Nat} {x y : Value} {B : Option Addr} {n c : Nat} (hv : Value.okWide Tryz.prog W r b0 27 (.agg #[x,y,.slice B n c])) : ∀ a,B = some a → a.block < W.heap.size:=by
 unfold Value.okWide at hv
 rw [Tryz.underlying27] at hv
 obtain ⟨cs,e,_,ts,hts,_,hall⟩:=hv
 injection e with e
 subst e
 obtain ⟨u,hu,hc⟩:=hall 2 _ rfl
 rw [page_types] at hts
 injection hts with hts
 subst hts
 injection hu with hu
 subst hu
 rintro a rfl
 unfold Cell.okWide at hc
 rw [Tryz.underlying25] at hc
 have hc : Cell.ok Tryz.prog W r b0 25 (.slice (some a) n c):=hc
 unfold Cell.ok at hc
 rw [Tryz.underlying25] at hc
 obtain ⟨_,_,_,_,row,cells,hs,_⟩:=hc
 unfold World.shape? at hs
 rcases Nat.lt_or_ge a.block W.heap.size with h | h
 ·exact h
 ·rw [Array.getElem?_eq_none h] at hs; cases hs
end Go.Proofs.YtomnlhbioijfhaaGreatDoor
