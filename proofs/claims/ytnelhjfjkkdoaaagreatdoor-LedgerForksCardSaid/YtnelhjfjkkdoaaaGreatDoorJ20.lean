import Derived.Test.YtnelhjfjkkdoaaaGreatDoorJ01
import Derived.Test.YtnelhjfjkkdoaaaGreatDoorJ05
import Derived.Test.YtnelhjfjkkdoaaaGreatDoorJ07
import Derived.Test.YtnelhjfjkkdoaaaGreatDoorJ10
set_option linter.unusedSimpArgs false
set_option linter.unusedVariables false
namespace Go.Proofs.YtnelhjfjkkdoaaaGreatDoor
theorem bl_irrefl : ∀ a : List UInt8,Op.bytesLess a a = false
 | []=>rfl
 | a :: x=>by simp [Op.bytesLess,bl_irrefl x]
theorem bl_trans : ∀ a b c : List UInt8,Op.bytesLess a b = true → Op.bytesLess b c = true → Op.bytesLess a c = true
 | _, [],_,h,_=>by simp [Op.bytesLess] at h
 | _,_ :: _, [],_,h=>by simp [Op.bytesLess] at h
 | [],_ :: _,_ :: _,_,_=>by simp [Op.bytesLess]
 | a :: x,b :: y,c :: z,h1,h2=>by
  simp only [Op.bytesLess,Bool.or_eq_true,Bool.and_eq_true,decide_eq_true_eq,beq_iff_eq,UInt8.lt_iff_toNat_lt] at *
  rcases h1 with h1 | ⟨rfl,h1⟩
  ·rcases h2 with h2 | ⟨rfl,h2⟩
   ·exact .inl (by omega)
   ·exact .inl h1
  ·rcases h2 with h2 | ⟨rfl,h2⟩
   ·exact .inl h2
   ·exact .inr ⟨rfl,bl_trans x y z h1 h2⟩
theorem bl_tri : ∀ a b : List UInt8,Op.bytesLess a b = false → Op.bytesLess b a = false → a = b
 | [], [],_,_=>rfl
 | [],_ :: _,h,_=>by simp [Op.bytesLess] at h
 | _ :: _, [],_,h=>by simp [Op.bytesLess] at h
 | a :: x,b :: y,h1,h2=>by
  simp only [Op.bytesLess,Bool.or_eq_false_iff,Bool.and_eq_false_iff,decide_eq_false_iff_not,UInt8.lt_iff_toNat_lt] at *
  have e : a = b:=UInt8.toNat_inj.1 (by omega)
  subst e
  simp at h1 h2
  rw [bl_tri x y h1 h2]
theorem bl_asymm (a b : List UInt8) (h : Op.bytesLess a b = true) : Op.bytesLess b a = false:=by
 cases h2 : Op.bytesLess b a with
 | false=>rfl
 | true=>have:=bl_trans a b a h h2; rw [bl_irrefl] at this; cases this
end Go.Proofs.YtnelhjfjkkdoaaaGreatDoor
namespace Go.Proofs.YtnelhjfjkkdoaaaGreatDoor
open Go.RowKit Go.Instr
attribute [local go_sem] ba_get ByteArray.mk_append_mk
def rcV (c : Int) (f : List UInt8) (q : Int) : Value:=.agg #[.int .i64 c,.string ⟨f.toArray⟩,.int .i64 q]
def rcOk (c : Int) (f : List UInt8) (q : Int) : Prop:=0 ≤ c ∧ c ≤ 1000 ∧ f ≠ [] ∧ f.length ≤ 6 ∧ 0 ≤ q ∧ q ≤ 1099511627776
instance (c : Int) (f : List UInt8) (q : Int) : Decidable (rcOk c f q):=by unfold rcOk; infer_instance
def encW (c : Int) (f : List UInt8) (q : Int) : List UInt8 × Nat:=if rcOk c f q then (numW c.toNat ++ textW f ++ numW q.toNat,0) else ([],3)
def REncEnd (w : World) (r : List UInt8 × Nat) (e : Ending) (w' : World) : Prop:=e = .returned (.tuple #[.string ⟨r.1.toArray⟩,.int .i64 (r.2 : Int)]) ∧ Below w.heap.size w w'
set_option maxRecDepth 100000 in
set_option maxHeartbeats 4000000 in
theorem receipt_Encode (c : Int) (f : List UInt8) (q : Int) (hf : f.length ≤ 9223372036854775807) (w : World) :
  Calls Tryz.prog 117 #[rcV c f q] w (REncEnd w (encW c f q)):=by
 have HB : Hid (¬ rcOk c f q → ∀ w',Below w.heap.size w w' → REncEnd w (encW c f q) (.returned (.tuple #[.string ⟨#[]⟩,.int .i64 3])) w'):=Lib.hid (fun h w' hb=>by
  rw [encW,if_neg h]; exact ⟨rfl,hb⟩)
 have HG : Hid (rcOk c f q → ∀ w',Below w.heap.size w w' → REncEnd w (encW c f q) (.returned (.tuple #[.string ⟨(numW c.toNat ++ textW f ++ numW q.toNat).toArray⟩,.int .i64 0])) w'):=Lib.hid (fun h w' hb=>by
  rw [encW,if_pos h]; exact ⟨rfl,hb⟩)
 generalize REncEnd w (encW c f q) = P at HB HG ⊢
 unfold rcV
 by_cases h1 : c < 0
 ·have HNo : Hid (¬ rcOk c f q):=Lib.hid (fun h=>by have:=h.1; omega)
  have g1 : (c < 0) = True:=by simp [h1]
  clear hf h1
  clear HG
  go_enter Tryz.func117,Tryz.ntmps117
  go_upto_region 1 with fail
  have F0 : Hid (Blk (w.alloc (.cells #[.int .i64 c,.string ⟨f.toArray⟩,.int .i64 q] 75)) w.heap.size 75 #[.int .i64 c,.string ⟨f.toArray⟩,.int .i64 q] ∧ Below w.heap.size w (w.alloc (.cells #[.int .i64 c,.string ⟨f.toArray⟩,.int .i64 q] 75))):=Lib.hid ⟨Blk.new _ _ _,by go_grown⟩
  generalize w.alloc (.cells #[.int .i64 c,.string ⟨f.toArray⟩,.int .i64 q] 75) = W0 at F0 ⊢
  have k0 : W0.cell? ⟨w.heap.size,0,none⟩ = some (.int .i64 c):=F0.out.1.cell 0
  have k1 : W0.cell? ⟨w.heap.size,1,none⟩ = some (.string ⟨f.toArray⟩):=F0.out.1.cell 1
  have k2 : W0.cell? ⟨w.heap.size,2,none⟩ = some (.int .i64 q):=F0.out.1.cell 2
  generalize w.heap.size = B at *
  go_wp2
  first | exact HB.out HNo.out _ F0.out.2 | (go_ret; exact HB.out HNo.out _ F0.out.2)
 have g1 : (c < 0) = False:=by simp; omega
 by_cases h2 : 1000 < c
 ·have HNo : Hid (¬ rcOk c f q):=Lib.hid (fun h=>by have:=h.2.1; omega)
  clear hf h1
  clear HG
  go_enter Tryz.func117,Tryz.ntmps117
  go_upto_region 1 with fail
  have F0 : Hid (Blk (w.alloc (.cells #[.int .i64 c,.string ⟨f.toArray⟩,.int .i64 q] 75)) w.heap.size 75 #[.int .i64 c,.string ⟨f.toArray⟩,.int .i64 q] ∧ Below w.heap.size w (w.alloc (.cells #[.int .i64 c,.string ⟨f.toArray⟩,.int .i64 q] 75))):=Lib.hid ⟨Blk.new _ _ _,by go_grown⟩
  generalize w.alloc (.cells #[.int .i64 c,.string ⟨f.toArray⟩,.int .i64 q] 75) = W0 at F0 ⊢
  have k0 : W0.cell? ⟨w.heap.size,0,none⟩ = some (.int .i64 c):=F0.out.1.cell 0
  have k1 : W0.cell? ⟨w.heap.size,1,none⟩ = some (.string ⟨f.toArray⟩):=F0.out.1.cell 1
  have k2 : W0.cell? ⟨w.heap.size,2,none⟩ = some (.int .i64 q):=F0.out.1.cell 2
  generalize w.heap.size = B at *
  go_wp2
  first | exact HB.out HNo.out _ F0.out.2 | (go_ret; exact HB.out HNo.out _ F0.out.2)
 have g2 : (1000 < c) = False:=by simp; omega
 by_cases h3 : f = []
 ·have HNo : Hid (¬ rcOk c f q):=Lib.hid (fun h=>h.2.2.1 h3)
  subst h3
  clear hf h1 h2
  clear HG
  go_enter Tryz.func117,Tryz.ntmps117
  go_upto_region 1 with fail
  have F0 : Hid (Blk (w.alloc (.cells #[.int .i64 c,.string ⟨#[]⟩,.int .i64 q] 75)) w.heap.size 75 #[.int .i64 c,.string ⟨#[]⟩,.int .i64 q] ∧ Below w.heap.size w (w.alloc (.cells #[.int .i64 c,.string ⟨#[]⟩,.int .i64 q] 75))):=Lib.hid ⟨Blk.new _ _ _,by go_grown⟩
  generalize w.alloc (.cells #[.int .i64 c,.string ⟨#[]⟩,.int .i64 q] 75) = W0 at F0 ⊢
  have k0 : W0.cell? ⟨w.heap.size,0,none⟩ = some (.int .i64 c):=F0.out.1.cell 0
  have k1 : W0.cell? ⟨w.heap.size,1,none⟩ = some (.string ⟨#[]⟩):=F0.out.1.cell 1
  have k2 : W0.cell? ⟨w.heap.size,2,none⟩ = some (.int .i64 q):=F0.out.1.cell 2
  generalize w.heap.size = B at *
  go_wp2
  first | exact HB.out HNo.out _ F0.out.2 | (go_ret; exact HB.out HNo.out _ F0.out.2)
 have g3 : (f = []) = False:=by simp [h3]
 have g3b : f.isEmpty = false:=by simp [h3]
 by_cases h4 : 6 < f.length
 ·have HNo : Hid (¬ rcOk c f q):=Lib.hid (fun h=>by have:=h.2.2.2.1; omega)
  have g4 : (6 : Int) < (f.length : Int):=by omega
  clear hf h1 h2 h3 h4
  clear HG
  go_enter Tryz.func117,Tryz.ntmps117
  go_upto_region 1 with fail
  have F0 : Hid (Blk (w.alloc (.cells #[.int .i64 c,.string ⟨f.toArray⟩,.int .i64 q] 75)) w.heap.size 75 #[.int .i64 c,.string ⟨f.toArray⟩,.int .i64 q] ∧ Below w.heap.size w (w.alloc (.cells #[.int .i64 c,.string ⟨f.toArray⟩,.int .i64 q] 75))):=Lib.hid ⟨Blk.new _ _ _,by go_grown⟩
  generalize w.alloc (.cells #[.int .i64 c,.string ⟨f.toArray⟩,.int .i64 q] 75) = W0 at F0 ⊢
  have k0 : W0.cell? ⟨w.heap.size,0,none⟩ = some (.int .i64 c):=F0.out.1.cell 0
  have k1 : W0.cell? ⟨w.heap.size,1,none⟩ = some (.string ⟨f.toArray⟩):=F0.out.1.cell 1
  have k2 : W0.cell? ⟨w.heap.size,2,none⟩ = some (.int .i64 q):=F0.out.1.cell 2
  generalize w.heap.size = B at *
  go_wp2
  first | exact HB.out HNo.out _ F0.out.2 | (go_ret; exact HB.out HNo.out _ F0.out.2)
 have g4 : ((6 : Int) < (f.length : Int)) = False:=by simp; omega
 by_cases h5 : q < 0
 ·have HNo : Hid (¬ rcOk c f q):=Lib.hid (fun h=>by have:=h.2.2.2.2.1; omega)
  clear hf h1 h2 h3 h4
  clear HG
  go_enter Tryz.func117,Tryz.ntmps117
  go_upto_region 1 with fail
  have F0 : Hid (Blk (w.alloc (.cells #[.int .i64 c,.string ⟨f.toArray⟩,.int .i64 q] 75)) w.heap.size 75 #[.int .i64 c,.string ⟨f.toArray⟩,.int .i64 q] ∧ Below w.heap.size w (w.alloc (.cells #[.int .i64 c,.string ⟨f.toArray⟩,.int .i64 q] 75))):=Lib.hid ⟨Blk.new _ _ _,by go_grown⟩
  generalize w.alloc (.cells #[.int .i64 c,.string ⟨f.toArray⟩,.int .i64 q] 75) = W0 at F0 ⊢
  have k0 : W0.cell? ⟨w.heap.size,0,none⟩ = some (.int .i64 c):=F0.out.1.cell 0
  have k1 : W0.cell? ⟨w.heap.size,1,none⟩ = some (.string ⟨f.toArray⟩):=F0.out.1.cell 1
  have k2 : W0.cell? ⟨w.heap.size,2,none⟩ = some (.int .i64 q):=F0.out.1.cell 2
  generalize w.heap.size = B at *
  go_wp2
  first | exact HB.out HNo.out _ F0.out.2 | (go_ret; exact HB.out HNo.out _ F0.out.2)
 have g5 : (q < 0) = False:=by simp; omega
 by_cases h6 : 1099511627776 < q
 ·have HNo : Hid (¬ rcOk c f q):=Lib.hid (fun h=>by have:=h.2.2.2.2.2; omega)
  clear hf h1 h2 h3 h4 h5
  clear HG
  go_enter Tryz.func117,Tryz.ntmps117
  go_upto_region 1 with fail
  have F0 : Hid (Blk (w.alloc (.cells #[.int .i64 c,.string ⟨f.toArray⟩,.int .i64 q] 75)) w.heap.size 75 #[.int .i64 c,.string ⟨f.toArray⟩,.int .i64 q] ∧ Below w.heap.size w (w.alloc (.cells #[.int .i64 c,.string ⟨f.toArray⟩,.int .i64 q] 75))):=Lib.hid ⟨Blk.new _ _ _,by go_grown⟩
  generalize w.alloc (.cells #[.int .i64 c,.string ⟨f.toArray⟩,.int .i64 q] 75) = W0 at F0 ⊢
  have k0 : W0.cell? ⟨w.heap.size,0,none⟩ = some (.int .i64 c):=F0.out.1.cell 0
  have k1 : W0.cell? ⟨w.heap.size,1,none⟩ = some (.string ⟨f.toArray⟩):=F0.out.1.cell 1
  have k2 : W0.cell? ⟨w.heap.size,2,none⟩ = some (.int .i64 q):=F0.out.1.cell 2
  generalize w.heap.size = B at *
  go_wp2
  first | exact HB.out HNo.out _ F0.out.2 | (go_ret; exact HB.out HNo.out _ F0.out.2)
 have g6 : (1099511627776 < q) = False:=by simp; omega
 have HYes : Hid (rcOk c f q):=Lib.hid ⟨by omega,by omega,h3,by omega,by omega,by omega⟩
 obtain ⟨cn,rfl⟩:=Int.eq_ofNat_of_zero_le (show 0 ≤ c by omega)
 obtain ⟨qn,rfl⟩:=Int.eq_ofNat_of_zero_le (show 0 ≤ q by omega)
 have N1 : Hid (∀ W : World,Calls Tryz.prog 123 #[.int .i64 (cn : Int)] W fun e w'=>e = .returned (.tuple #[.string ⟨(numW cn).toArray⟩,.int .i64 0]) ∧ Below W.heap.size W w'):=Lib.hid (fun W=>code_Num cn (by omega) W)
 have N2 : Hid (∀ W : World,Calls Tryz.prog 123 #[.int .i64 (qn : Int)] W fun e w'=>e = .returned (.tuple #[.string ⟨(numW qn).toArray⟩,.int .i64 0]) ∧ Below W.heap.size W w'):=Lib.hid (fun W=>code_Num qn (by omega) W)
 have N3 : Hid (∀ W : World,Calls Tryz.prog 124 #[.string ⟨f.toArray⟩] W fun e w'=>e = .returned (.string ⟨(textW f).toArray⟩) ∧ Below W.heap.size W w'):=Lib.hid (fun W=>code_Text f (by omega) W)
 replace HG:=Lib.hid (HG.out HYes.out)
 simp only [Int.toNat_natCast] at HG
 have HL : Hid ((numW cn).length ≤ 9 ∧ (textW f).length ≤ 1000009 ∧ (numW qn).length ≤ 9):=Lib.hid ⟨numW_len cn (by omega),by rw [textW,List.length_append]; have:=numW_len f.length (by omega); omega,numW_len qn (by omega)⟩
 clear HB HYes hf h1 h2 h3 h4 h5 h6
 go_enter Tryz.func117,Tryz.ntmps117
 go_upto_region 1 with fail
 have F0 : Hid (Blk (w.alloc (.cells #[.int .i64 (cn : Int),.string ⟨f.toArray⟩,.int .i64 (qn : Int)] 75)) w.heap.size 75 #[.int .i64 (cn : Int),.string ⟨f.toArray⟩,.int .i64 (qn : Int)] ∧ Below w.heap.size w (w.alloc (.cells #[.int .i64 (cn : Int),.string ⟨f.toArray⟩,.int .i64 (qn : Int)] 75))):=Lib.hid ⟨Blk.new _ _ _,by go_grown⟩
 generalize w.alloc (.cells #[.int .i64 (cn : Int),.string ⟨f.toArray⟩,.int .i64 (qn : Int)] 75) = W0 at F0 ⊢
 have HLt:=Lib.hid F0.out.1.lt
 have k0 : W0.cell? ⟨w.heap.size,0,none⟩ = some (.int .i64 (cn : Int)):=F0.out.1.cell 0
 have k1 : W0.cell? ⟨w.heap.size,1,none⟩ = some (.string ⟨f.toArray⟩):=F0.out.1.cell 1
 have k2 : W0.cell? ⟨w.heap.size,2,none⟩ = some (.int .i64 (qn : Int)):=F0.out.1.cell 2
 generalize hB : w.heap.size = B at *
 clear hB
 go_wp2_with fail
 refine (N1.out _).mono ?_
 rintro e w1 ⟨rfl,hb⟩
 have F1 : Hid (W0.heap.size ≤ w1.heap.size ∧ Below B w w1):=Lib.hid ⟨hb.size,F0.out.2.trans (hb.mono (Nat.le_of_lt HLt.out))⟩
 have j0:=(hb.cell (p:=⟨B,0,none⟩) HLt.out).trans k0
 have j1:=(hb.cell (p:=⟨B,1,none⟩) HLt.out).trans k1
 have j2:=(hb.cell (p:=⟨B,2,none⟩) HLt.out).trans k2
 clear hb k0 k1 k2
 go_wp2_with fail
 refine (N2.out _).mono ?_
 rintro e w2 ⟨rfl,hb⟩
 have F2 : Hid (W0.heap.size ≤ w2.heap.size ∧ Below B w w2):=Lib.hid ⟨Nat.le_trans F1.out.1 hb.size,F1.out.2.trans (hb.mono (Nat.le_of_lt (Nat.lt_of_lt_of_le HLt.out F1.out.1)))⟩
 have k1:=(hb.cell (p:=⟨B,1,none⟩) (Nat.lt_of_lt_of_le HLt.out F1.out.1)).trans j1
 clear hb j0 j1 j2
 go_wp2_with fail
 refine (N3.out _).mono ?_
 rintro e w3 ⟨rfl,hb⟩
 have F3 : Hid (Below B w w3):=Lib.hid (F2.out.2.trans (hb.mono (Nat.le_of_lt (Nat.lt_of_lt_of_le HLt.out F2.out.1))))
 clear hb k1
 obtain ⟨l1,l2,l3⟩:=HL.out
 clear HL N1 N2 N3
 generalize numW cn = X at *
 generalize textW f = Y at *
 generalize numW qn = Z at *
 have m1 : X.length + Y.length ≤ 9223372036854775807:=by omega
 have m2 : X.length + Y.length + Z.length ≤ 9223372036854775807:=by omega
 have m3 : X.length + (Y.length + Z.length) ≤ 9223372036854775807:=by omega
 clear l1 l2 l3
 go_wp2
 first | exact HG.out _ F3.out | (simp only [List.append_assoc] at HG ⊢; exact HG.out _ F3.out)
theorem Rdr.below {w w' : World} {B g : Nat} {s : List UInt8 × Nat} (h : Rdr w g s) (hb : Below B w w') (hg : g < B) : Rdr w' g s:=by
 obtain ⟨all,a,h1,h2⟩:=h
 exact ⟨all,a,Blk.below h1 hb hg,h2⟩
theorem Rdr.grown {w w' : World} {g : Nat} {s : List UInt8 × Nat} {row : Option Nat} (h : Rdr w g s) (hg : w.grownBy w' row) (hne : some g ≠ row) : Rdr w' g s:=by
 obtain ⟨all,a,h1,h2⟩:=h
 exact ⟨all,a,Blk.grown h1 hg hne,h2⟩
end Go.Proofs.YtnelhjfjkkdoaaaGreatDoor
namespace Go.Proofs.YtnelhjfjkkdoaaaGreatDoor
open Go.RowKit
attribute [local go_sem] ba_get ByteArray.mk_append_mk
structure Live (w W : World) (L : List (Nat × Nat × Array Value)) : Prop where
 b : Below w.heap.size w W
 l : ∀ x ∈ L,w.heap.size ≤ x.1 ∧ Blk W x.1 x.2.1 x.2.2
 d : L.Pairwise fun x y=>x.1 ≠ y.1
section
variable {w W W' : World} {L : List (Nat × Nat × Array Value)} {i g t : Nat} {cs cs' : Array Value}
theorem Live.start (w : World) : Live w w []:=⟨Below.refl _ _,by simp,List.Pairwise.nil⟩
theorem Live.blk (h : Live w W L) (i : Nat) (hi : L[i]? = some (g,t,cs)) : Blk W g t cs:=(h.l _ (List.mem_of_getElem? hi)).2
theorem Live.own (h : Live w W L) (i : Nat) (hi : L[i]? = some (g,t,cs)) : w.heap.size ≤ g:=(h.l _ (List.mem_of_getElem? hi)).1
theorem Live.lt (h : Live w W L) (i : Nat) (hi : L[i]? = some (g,t,cs)) : g < W.heap.size:=(h.blk i hi).lt
theorem Live.cell (h : Live w W L) (i k : Nat) {v : Value} (hi : L[i]? = some (g,t,cs)) (hk : cs[k]? = some v) : W.cell? ⟨g,k,none⟩ = some v:=((h.blk i hi).cell k).trans hk
theorem Live.frozen (h : Live w W L) (i k : Nat) (hi : L[i]? = some (g,t,cs)) : W.frozen? ⟨g,k,none⟩ = false:=(h.blk i hi).frozen k
theorem Live.below (h : Live w W L) (hb : Below W.heap.size W W') : Live w W' L :=
 ⟨h.b.trans (hb.mono h.b.size),fun x hx=>⟨(h.l x hx).1,(h.l x hx).2.below hb (h.l x hx).2.lt⟩,h.d⟩
theorem Live.alloc (h : Live w W L) (cs : Array Value) (t : Nat) : Live w (W.alloc (.cells cs t)) ((W.heap.size,t,cs) :: L) :=
 ⟨h.b.alloc h.b.size _,by
  intro x hx
  rcases List.mem_cons.1 hx with rfl | hx
  ·exact ⟨h.b.size,Blk.new _ _ _⟩
  ·exact ⟨(h.l x hx).1,(h.l x hx).2.alloc _⟩,by
  refine List.pairwise_cons.2 ⟨fun x hx e => ?_,h.d⟩
  have:=(h.l x hx).2.lt
  have e' : W.heap.size = x.1:=e
  omega⟩
theorem Live.drop (h : Live w W L) (k : Nat) : Live w W (L.drop k) :=
 ⟨h.b,fun x hx=>h.l x (List.mem_of_mem_drop hx),h.d.sublist (List.drop_sublist _ _)⟩
theorem pairwise_set_ {L : List (Nat × Nat × Array Value)} (d : L.Pairwise fun x y=>x.1 ≠ y.1) (i : Nat) (hi : L[i]? = some (g,t,cs)) : (L.set i (g,t,cs')).Pairwise fun x y=>x.1 ≠ y.1:=by
 have e : (L.set i (g,t,cs')).map (·.1) = L.map (·.1):=by
  rw [List.map_set]
  apply List.ext_getElem?
  intro j
  rw [List.getElem?_set]
  split
  ·rename_i hj
   subst hj
   obtain ⟨hl,he⟩:=List.getElem?_eq_some_iff.1 hi
   simp [hl,he]
  ·rfl
 have h1 : (L.map (·.1)).Pairwise (· ≠ ·):=List.pairwise_map.2 d
 rw [← e] at h1
 exact List.pairwise_map.1 h1
theorem Live.grown (h : Live w W L) (i : Nat) (hi : L[i]? = some (g,t,cs)) (hg : W.grownBy W' (some g)) (hb : Blk W' g t cs') : Live w W' (L.set i (g,t,cs')):=by
 have hgo:=h.own i hi
 refine ⟨h.b.grown hg h.b.size (fun k e=>by injection e with e; subst e; exact hgo),fun x hx => ?_,pairwise_set_ h.d i hi⟩
 obtain ⟨j,hj⟩:=List.getElem?_of_mem hx
 rw [List.getElem?_set] at hj
 split at hj
 ·rename_i e
  split at hj
  ·injection hj with hj
   subst hj
   exact ⟨hgo,hb⟩
  ·cases hj
 ·rename_i e
  have hxL:=List.mem_of_getElem? hj
  refine ⟨(h.l x hxL).1,(h.l x hxL).2.grown hg ?_⟩
  intro e2
  injection e2 with e2
  have hp:=h.d
  rw [List.pairwise_iff_getElem] at hp
  obtain ⟨h1,h2⟩:=List.getElem?_eq_some_iff.1 hi
  obtain ⟨h3,h4⟩:=List.getElem?_eq_some_iff.1 hj
  rcases Nat.lt_or_gt_of_ne e with hlt | hlt
  ·have:=hp i j h1 h3 hlt
   rw [h2,h4] at this
   exact this e2.symm
  ·have:=hp j i h3 h1 hlt
   rw [h2,h4] at this
   exact this e2
theorem Live.apart (h : Live w W L) {row : Option Nat} (hg : W.grownBy W' row) (hr : ∀ k,row = some k → w.heap.size ≤ k ∧ ∀ x ∈ L,x.1 ≠ k) : Live w W' L :=
 ⟨h.b.grown hg h.b.size (fun k e=>(hr k e).1),fun x hx=>⟨(h.l x hx).1,(h.l x hx).2.grown hg (fun e=>(hr _ e.symm).2 x hx rfl)⟩,h.d⟩
theorem Live.set (h : Live w W L) (i k : Nat) (u : Value) (hi : L[i]? = some (g,t,cs)) : Live w (W.setCell ⟨g,k,none⟩ u) (L.set i (g,t,cs.setIfInBounds k u)) :=
 h.grown i hi ⟨rfl,rfl,rfl,by simp [World.setCell],fun j hj hne=>Below.heap_setCell _ _ _ _ (fun e=>hne (by rw [e]))⟩ ((h.blk i hi).set_ k u)
theorem Live.push {base e size n : Nat} {v : Value} {xs : List Value} (h : Live w W L) (own : W.ownsRow base e size v n xs) (hbase : w.heap.size ≤ base) (hne : ∀ x ∈ L,e ≠ x.2.1) (hg : W.grownBy W' v.ownBlock) : Live w W' L :=
 h.apart hg fun k hk=>⟨Nat.le_trans hbase (own.lt k hk).1,fun x hx he=>own_blk_ne own (h.l x hx).2 (hne x hx) (by rw [he]; exact hk)⟩
theorem Live.hp {base e size n : Nat} {v : Value} {xs : List Value} (h : Hid (Live w W L)) (own : W.ownsRow base e size v n xs) (hbase : w.heap.size ≤ base) (hne : ∀ x ∈ L,e ≠ x.2.1) (hg : W.grownBy W' v.ownBlock) : Hid (Live w W' L):=Lib.hid (h.out.push own hbase hne hg)
theorem Live.hb (h : Hid (Live w W L)) (hb : Below W.heap.size W W') : Hid (Live w W' L):=Lib.hid (h.out.below hb)
theorem Live.hbd (h : Hid (Live w W L)) (hb : Below W.drew.heap.size W.drew W') : Hid (Live w W' L):=Lib.hid (h.out.below ⟨hb.os,hb.tape,hb.output,hb.size,hb.block⟩)
theorem Live.ha (h : Hid (Live w W L)) (cs : Array Value) (t : Nat) : Hid (Live w (W.alloc (.cells cs t)) ((W.heap.size,t,cs) :: L)):=Lib.hid (h.out.alloc cs t)
theorem Live.hs (h : Hid (Live w W L)) (i k : Nat) (u : Value) (hi : L[i]? = some (g,t,cs)) : Hid (Live w (W.setCell ⟨g,k,none⟩ u) (L.set i (g,t,cs.setIfInBounds k u))):=Lib.hid (h.out.set i k u hi)
theorem Live.hg (h : Hid (Live w W L)) (i : Nat) (hi : L[i]? = some (g,t,cs)) (hg : W.grownBy W' (some g)) (hb : Blk W' g t cs') : Hid (Live w W' (L.set i (g,t,cs'))):=Lib.hid (h.out.grown i hi hg hb)
theorem Live.drew (h : Live w W L) (n : Nat) : Live w (W.drewN n) L:=⟨⟨h.b.os,h.b.tape,h.b.output,h.b.size,h.b.block⟩,h.l,h.d⟩
end
open Go.Instr
theorem conv1b {w : World} {g : Nat} {x : Int} (h : Blk w g 5 #[.int .u8 x]) (h0 : 0 ≤ x) (h1 : x < 256) : (convert 118 9 (.slice (some ⟨g,0,none⟩) 1 1)).run Tryz.prog w = .ok (.string ⟨#[UInt8.ofNat x.toNat]⟩) w:=by
 refine conv_reads _ (g + 1) _ _ _ [UInt8.ofNat x.toNat] ⟨rfl,fun _=>⟨_,rfl,by simp,fun j u hu => ?_⟩⟩
 have ha : (⟨g,0,none⟩ : Addr).add j = ⟨g,j,none⟩:=by unfold Addr.add; split <;> simp_all
 rw [ha,h.cell]
 simp only [bvals,List.map,u8_ofInt x h0 h1] at hu
 simpa using hu
def Ret (w : World) (v : Value) (e : Ending) (w' : World) : Prop:=e = .returned v ∧ Below w.heap.size w w'
theorem step_append_row {P : Program} (wr : World) (e : TypeId) (news : List Value) {ops : Array Oper} {o : Oper} {a : Act} {K : Act → World → Prop} {Q : Exit → Act → World → Prop} {E : Prop} (hgd : o.guard = none) (s x : Operand) (t : TypeId)
  (ho : o.op = .call { callee:=.builtin .append,args:=#[s,x],argTypes:=#[t,t] })
  (base size bytes : Nat) (z : Value) (hinfo : (P.info? e).map (fun i=>(i.zero,i.size,i.bytes)) = some (some z,size,bytes)) (ht : P.underlying t = some (.slice e)) (hzs : z.cells.size = size) (hsz : 0 < size)
  (v : Value) (n : Nat) (xs : List Value) (hs : a.eval s = v) (hown : wr.ownsRow base e size v n xs)
  (m c : Nat) (hx : a.eval x = .slice (some ⟨wr.heap.size,0,none⟩) m c) (hl : news.length = m * size) (h1 : ∀ u ∈ news,u.oneCell' = true)
  (h63 : n + m ≤ maxLen) (hbytes : (n + m) * bytes ≤ 140737488355328) (B : Nat) (w0 : World) (hb : Below B w0 wr) (hB : B ≤ base) (hbase : base ≤ wr.heap.size)
  (h : ∀ v' w',w'.ownsRow base e size v' (n + m) (xs ++ news) → Below B w0 w' → wr.grownBy w' v.ownBlock → (v'.ownBlock = v.ownBlock ∨ ∃ g,v'.ownBlock = some g ∧ wr.heap.size ≤ g) → wr.heap.size < w'.heap.size → K (a.put o.dst v') w') :
  if Region.wanted o (yielded ops a.tmps) = true then Oper.wp P o a (wr.alloc (.cells news.toArray e)) K Q else E:=by
 have hw : Region.wanted o (yielded ops a.tmps) = true:=by simp [Region.wanted,hgd]
 rw [if_pos hw]
 exact wp_append_new wr e news s x t ho base size bytes z hinfo ht hzs hsz v n xs hs hown m c hx hl h1 h63 hbytes B w0 hb hB hbase fun v' w' h2 h3 h4 h5 h6=>h v' w' h2 h3 h4 h5 h6
end Go.Proofs.YtnelhjfjkkdoaaaGreatDoor
