import Derived.Test.YtomnlhbioijfhaaDoorK33
set_option linter.unusedSimpArgs false
set_option linter.unusedVariables false
namespace Go.Proofs.YtomnlhbioijfhaaDoor
open Go.RowKit Go.Instr Go.ChangeShapes Go.WideShapes Go.ChangeAt Go.ChangeMaps Go.Joins Go.Deep
theorem array8_16 (T : Array Value) (h : T.size = 8) : ∃ a b c d e f g i : Value,T = #[a,b,c,d,e,f,g,i]:=by
 obtain ⟨l⟩:=T
 match l,h with
 | [a,b,c,d,e,f,g,i],_=>exact ⟨a,b,c,d,e,f,g,i,rfl⟩
set_option maxRecDepth 100000 in
theorem open_tx {H : Type} {enc : TypeId × Value → H} {W : World} {r : Reach} {b0 : Nat} {v : Value} {d : DataW H} {p : List MemPlace} (hv : Value.okWide Tryd.prog W r b0 33 v) (h : DataW.Trod enc Tryd.prog W 0 (fun _=>true) true 33 v d p) :
  ∃ (x : Ex.Tx) (A : Option Addr) (c : Nat),v = .agg #[.int .i64 x.kind,.string ⟨x.frm.toArray⟩,.int .i64 x.seq,.string ⟨x.dst.toArray⟩,.int .i64 x.amt,.string ⟨x.key.toArray⟩,.string ⟨x.val.toArray⟩,.slice A x.mem.length c] ∧ OkT x ∧ Reads W W.heap.size 2 A x.mem.length (mcells x.mem):=by
 obtain ⟨cs,rfl,hsz⟩:=okWide_struct Tryd.underlying33 hv
 obtain ⟨c0,c1,c2,c3,c4,c5,c6,c7,rfl⟩:=array8_16 cs (hsz.trans (by kernel_rfl))
 obtain ⟨fuel,hf⟩:=h
 obtain ⟨xs,n,_,_,_,hxl,hx⟩:=DataW.trod_struct Tryd.underlying33 hf
 have hy : ∀ j,j < 8 → ∃ y,xs[j]? = some y:=fun j hj=>⟨_,List.getElem?_eq_getElem (by rw [hxl]; exact hj)⟩
 have q3 : Tryd.prog.cellsOf 3 = 1:=by kernel_rfl
 have q9 : Tryd.prog.cellsOf 9 = 1:=by kernel_rfl
 have q7 : Tryd.prog.cellsOf 23 = 1:=by kernel_rfl
 obtain ⟨y0,g0⟩:=hy 0 (by decide)
 have t0 : DataW.trod enc Tryd.prog W 0 (fun _=>true) true n 3 [c0] = some y0:=by
  have this : DataW.trod enc Tryd.prog W 0 (fun _=>true) true n 3 (List.take (Tryd.prog.cellsOf 3) _) = xs[0]?:=hx 0 _ rfl
  rw [q3,g0] at this
  exact this
 obtain ⟨y1,g1⟩:=hy 1 (by decide)
 have t1 : DataW.trod enc Tryd.prog W 0 (fun _=>true) true n 9 [c1] = some y1:=by
  have this : DataW.trod enc Tryd.prog W 0 (fun _=>true) true n 9 (List.take (Tryd.prog.cellsOf 9) _) = xs[1]?:=hx 1 _ rfl
  rw [q9,g1] at this
  exact this
 obtain ⟨y2,g2⟩:=hy 2 (by decide)
 have t2 : DataW.trod enc Tryd.prog W 0 (fun _=>true) true n 3 [c2] = some y2:=by
  have this : DataW.trod enc Tryd.prog W 0 (fun _=>true) true n 3 (List.take (Tryd.prog.cellsOf 3) _) = xs[2]?:=hx 2 _ rfl
  rw [q3,g2] at this
  exact this
 obtain ⟨y3,g3⟩:=hy 3 (by decide)
 have t3 : DataW.trod enc Tryd.prog W 0 (fun _=>true) true n 9 [c3] = some y3:=by
  have this : DataW.trod enc Tryd.prog W 0 (fun _=>true) true n 9 (List.take (Tryd.prog.cellsOf 9) _) = xs[3]?:=hx 3 _ rfl
  rw [q9,g3] at this
  exact this
 obtain ⟨y4,g4⟩:=hy 4 (by decide)
 have t4 : DataW.trod enc Tryd.prog W 0 (fun _=>true) true n 3 [c4] = some y4:=by
  have this : DataW.trod enc Tryd.prog W 0 (fun _=>true) true n 3 (List.take (Tryd.prog.cellsOf 3) _) = xs[4]?:=hx 4 _ rfl
  rw [q3,g4] at this
  exact this
 obtain ⟨y5,g5⟩:=hy 5 (by decide)
 have t5 : DataW.trod enc Tryd.prog W 0 (fun _=>true) true n 9 [c5] = some y5:=by
  have this : DataW.trod enc Tryd.prog W 0 (fun _=>true) true n 9 (List.take (Tryd.prog.cellsOf 9) _) = xs[5]?:=hx 5 _ rfl
  rw [q9,g5] at this
  exact this
 obtain ⟨y6,g6⟩:=hy 6 (by decide)
 have t6 : DataW.trod enc Tryd.prog W 0 (fun _=>true) true n 9 [c6] = some y6:=by
  have this : DataW.trod enc Tryd.prog W 0 (fun _=>true) true n 9 (List.take (Tryd.prog.cellsOf 9) _) = xs[6]?:=hx 6 _ rfl
  rw [q9,g6] at this
  exact this
 obtain ⟨y7,g7⟩:=hy 7 (by decide)
 have t7 : DataW.trod enc Tryd.prog W 0 (fun _=>true) true n 23 [c7] = some y7:=by
  have this : DataW.trod enc Tryd.prog W 0 (fun _=>true) true n 23 (List.take (Tryd.prog.cellsOf 23) _) = xs[7]?:=hx 7 _ rfl
  rw [q7,g7] at this
  exact this
 obtain ⟨s0,e0,_⟩:=DataW.trod_int Tryd.underlying3 t0
 obtain ⟨s1,e1,_,z1⟩:=DataW.trod_string Tryd.underlying9 t1
 obtain ⟨s2,e2,_⟩:=DataW.trod_int Tryd.underlying3 t2
 obtain ⟨s3,e3,_,z3⟩:=DataW.trod_string Tryd.underlying9 t3
 obtain ⟨s4,e4,_⟩:=DataW.trod_int Tryd.underlying3 t4
 obtain ⟨s5,e5,_,z5⟩:=DataW.trod_string Tryd.underlying9 t5
 obtain ⟨s6,e6,_,z6⟩:=DataW.trod_string Tryd.underlying9 t6
 injection e0 with e0
 subst e0
 injection e1 with e1
 subst e1
 injection e2 with e2
 subst e2
 injection e3 with e3
 subst e3
 injection e4 with e4
 subst e4
 injection e5 with e5
 subst e5
 injection e6 with e6
 subst e6
 obtain ⟨A7,n7,m7,rfl⟩:=slice_of16 Tryd.underlying23 t7
 obtain ⟨M,hM,HM,_,_,HMl⟩:=open_members t7
 subst hM
 exact ⟨⟨s0,s1.data.toList,s2,s3.data.toList,s4,s5.data.toList,s6.data.toList,M⟩,A7,m7,rfl,⟨text_le z1,text_le z3,text_le z5,text_le z6,HMl⟩,HM⟩
end Go.Proofs.YtomnlhbioijfhaaDoor
