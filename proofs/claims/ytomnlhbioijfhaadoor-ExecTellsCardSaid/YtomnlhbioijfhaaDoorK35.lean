import Derived.Test.YtomnlhbioijfhaaDoorK32
set_option linter.unusedSimpArgs false
set_option linter.unusedVariables false
namespace Go.Proofs.YtomnlhbioijfhaaDoor
open Go.ChangeShapes Go.WideShapes Go.ChangeAt Go.RowKit Go.ChangeMaps Go.Joins
set_option maxRecDepth 100000 in
theorem open_e2 {H : Type} {enc : TypeId × Value → H} {W : World} {r : Reach} {base b0 : Nat} {spare : Nat → Bool} {held : Bool} {v : Value} {d : DataW H} {p : List MemPlace} (hv : Value.okWide Tryd.prog W r b0 38 v) (h : DataW.Trod enc Tryd.prog W base spare held 38 v d p) :
  ∃ y z : List UInt8,v = .agg #[.string ⟨y.toArray⟩,.string ⟨z.toArray⟩] ∧ y.length ≤ 9223372036854775807 ∧ z.length ≤ 9223372036854775807:=by
 have hform : ∃ cs,v = .agg cs ∧ cs.size = Tryd.prog.cellsOf 38:=by
  have h:=hv
  simp only [Value.okWide,Tryd.underlying38] at h
  obtain ⟨cs,h1,h2,_⟩:=h
  exact ⟨cs,h1,h2⟩
 obtain ⟨cs,rfl,hsz⟩:=hform
 rw [show Tryd.prog.cellsOf 38 = 2 from by kernel_rfl] at hsz
 obtain ⟨c0,c1,rfl⟩:=array2 hsz
 obtain ⟨fuel,hf⟩:=h
 obtain ⟨xs,m,_,_,_,hl,hx⟩:=DataW.trod_array Tryd.underlying38 hf
 have k1 : Tryd.prog.cellsOf 9 = 1:=by kernel_rfl
 have h0:=hx 0 (by omega)
 have h1:=hx 1 (by omega)
 rw [k1] at h0 h1
 have g0 : DataW.trod enc Tryd.prog W base spare held m 9 [c0] = some (xs[0]'(by omega)):=by
  rw [← List.getElem?_eq_getElem (by omega),← h0]; rfl
 have g1 : DataW.trod enc Tryd.prog W base spare held m 9 [c1] = some (xs[1]'(by omega)):=by
  rw [← List.getElem?_eq_getElem (by omega),← h1]; rfl
 obtain ⟨s0,e0,_,z0⟩:=DataW.trod_string Tryd.underlying9 g0
 obtain ⟨s1,e1,_,z1⟩:=DataW.trod_string Tryd.underlying9 g1
 injection e0 with e0
 injection e1 with e1
 subst e0 e1
 simp only [maxLen] at z0 z1
 refine ⟨s0.data.toList,s1.data.toList,rfl, ?_, ?_⟩
 ·have e : s0.data.toList.length = s0.size:=Array.length_toList
  omega
 ·have e : s1.data.toList.length = s1.size:=Array.length_toList
  omega
end Go.Proofs.YtomnlhbioijfhaaDoor
