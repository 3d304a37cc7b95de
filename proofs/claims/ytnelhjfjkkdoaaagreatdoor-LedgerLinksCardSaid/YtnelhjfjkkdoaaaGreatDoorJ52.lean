import Derived.Test.YtnelhjfjkkdoaaaGreatDoorJ51
set_option linter.unusedSimpArgs false
set_option linter.unusedVariables false
namespace Go.Proofs.YtnelhjfjkkdoaaaGreatDoor
open Go.RowKit Go.Instr Go.ChangeShapes Go.WideShapes Go.ChangeAt Go.ChangeMaps Go.Joins Go.Deep
theorem array2_35 {cs : Array Value} (h : cs.size = 2) : ∃ a b,cs = #[a,b]:=by
 obtain ⟨l⟩:=cs
 match l,h with
 | [a,b],_=>exact ⟨a,b,rfl⟩
set_option maxRecDepth 100000 in
theorem open_i2 {H : Type} {enc : TypeId × Value → H} {W : World} {r : Reach} {base b0 : Nat} {spare : Nat → Bool} {held : Bool} {v : Value} {d : DataW H} {p : List MemPlace} (hv : Value.okWide Tryz.prog W r b0 101 v) (h : DataW.Trod enc Tryz.prog W base spare held 101 v d p) :
  ∃ y z : Int,v = .agg #[.int .i64 y,.int .i64 z]:=by
 have hform : ∃ cs,v = .agg cs ∧ cs.size = Tryz.prog.cellsOf 101:=by
  have h:=hv
  simp only [Value.okWide,Tryz.underlying101] at h
  obtain ⟨cs,h1,h2,_⟩:=h
  exact ⟨cs,h1,h2⟩
 obtain ⟨cs,rfl,hsz⟩:=hform
 rw [show Tryz.prog.cellsOf 101 = 2 from by kernel_rfl] at hsz
 obtain ⟨c0,c1,rfl⟩:=array2_35 hsz
 obtain ⟨fuel,hf⟩:=h
 obtain ⟨xs,m,_,_,_,hl,hx⟩:=DataW.trod_array Tryz.underlying101 hf
 have k1 : Tryz.prog.cellsOf 3 = 1:=by kernel_rfl
 have h0:=hx 0 (by omega)
 have h1:=hx 1 (by omega)
 rw [k1] at h0 h1
 have g0 : DataW.trod enc Tryz.prog W base spare held m 3 [c0] = some (xs[0]'(by omega)):=by
  rw [← List.getElem?_eq_getElem (by omega),← h0]; rfl
 have g1 : DataW.trod enc Tryz.prog W base spare held m 3 [c1] = some (xs[1]'(by omega)):=by
  rw [← List.getElem?_eq_getElem (by omega),← h1]; rfl
 obtain ⟨s0,e0,_⟩:=DataW.trod_int Tryz.underlying3 g0
 obtain ⟨s1,e1,_⟩:=DataW.trod_int Tryz.underlying3 g1
 injection e0 with e0
 injection e1 with e1
 subst e0 e1
 exact ⟨s0,s1,rfl⟩
end Go.Proofs.YtnelhjfjkkdoaaaGreatDoor
