import Derived.Lib.Hide
import Derived.Test.YtnelhjfjkkdoaaaGreatDoorJ05
import Derived.Test.YtnelhjfjkkdoaaaGreatDoorJ01
set_option linter.unusedSimpArgs false
set_option linter.unusedVariables false
namespace Go.Proofs.YtnelhjfjkkdoaaaGreatDoor
namespace Skip
def nxt : Nat → Nat → Nat → Nat → Nat → Nat
 | 0,_,_,_,at_=>at_
 | f + 1,h,low,step,at_=>if h % step = 0 ∧ step ≤ h - low then nxt f h low (step * 2) (h - step) else at_
def next (h low : Nat) : Nat:=nxt 22 h low 2 (h - 1)
theorem nxt_lt (f : Nat) : ∀ (h low step at_ : Nat),0 < step → low < h → low ≤ at_ → at_ < h → low ≤ nxt f h low step at_ ∧ nxt f h low step at_ < h:=by
 induction f with
 | zero=>intro h low step at_ _ _ h1 h2; exact ⟨h1,h2⟩
 | succ f ih =>
  intro h low step at_ hs hl h1 h2
  unfold nxt
  split
  ·rename_i hc; exact ih h low (step * 2) (h - step) (by omega) hl (by omega) (by omega)
  ·exact ⟨h1,h2⟩
theorem next_lt (h low : Nat) (hl : low < h) : low ≤ next h low ∧ next h low < h:=nxt_lt _ _ _ _ _ (by omega) hl (by omega) (by omega)
theorem nxt_yes {f h low step at_ : Nat} (h1 : h % step = 0) (h2 : step ≤ h - low) : nxt (f + 1) h low step at_ = nxt f h low (step * 2) (h - step):=by
 rw [nxt,if_pos ⟨h1,h2⟩]
theorem nxt_no {f h low step at_ : Nat} (h1 : ¬ (h % step = 0 ∧ step ≤ h - low)) : nxt (f + 1) h low step at_ = at_:=by
 rw [nxt,if_neg h1]
def routeF : Nat → Nat → Nat → List Nat
 | 0,_,_ => []
 | f + 1,h,low=>if low < h then next h low :: routeF f (next h low) low else []
def route (h low : Nat) : List Nat:=routeF h h low
theorem routeF_yes {f h low : Nat} (hl : low < h) : routeF (f + 1) h low = next h low :: routeF f (next h low) low:=by
 rw [routeF,if_pos hl]
theorem routeF_no {f h low : Nat} (hl : ¬ low < h) : routeF f h low = []:=by
 cases f with
 | zero=>rfl
 | succ f=>rw [routeF,if_neg hl]
def linksF : Nat → Nat → Nat → List Nat
 | 0,_,_ => []
 | f + 1,h,step=>if h % step = 0 then (h - step) :: linksF f h (step * 2) else []
def links (h : Nat) : List Nat:=linksF 22 h 2
theorem linksF_yes {f h step : Nat} (hl : h % step = 0) : linksF (f + 1) h step = (h - step) :: linksF f h (step * 2):=by
 rw [linksF,if_pos hl]
theorem linksF_no {f h step : Nat} (hl : ¬ h % step = 0) : linksF (f + 1) h step = []:=by
 rw [linksF,if_neg hl]
theorem nxt_link (f : Nat) : ∀ (h low step at_ : Nat),nxt f h low step at_ = at_ ∨ nxt f h low step at_ ∈ linksF f h step:=by
 induction f with
 | zero=>intro h low step at_; exact .inl rfl
 | succ f ih =>
  intro h low step at_
  by_cases hc : h % step = 0 ∧ step ≤ h - low
  ·rw [nxt_yes hc.1 hc.2,linksF_yes hc.1]
   rcases ih h low (step * 2) (h - step) with e | e
   ·rw [e]; simp
   ·exact .inr (List.mem_cons_of_mem _ e)
  ·exact .inl (nxt_no hc)
theorem next_link (h low : Nat) : next h low = h - 1 ∨ next h low ∈ links h:=nxt_link 22 h low 2 (h - 1)
theorem linksF_len (f : Nat) : ∀ (h step : Nat),(linksF f h step).length ≤ f:=by
 induction f with
 | zero=>intro h step; simp [linksF]
 | succ f ih =>
  intro h step
  unfold linksF
  split
  ·have:=ih h (step * 2); simp; omega
  ·simp
theorem routeF_fuel (f : Nat) : ∀ (g h low : Nat),h ≤ f → h ≤ g → routeF f h low = routeF g h low:=by
 induction f with
 | zero =>
  intro g h low h1 h2
  rw [routeF_no (by omega),routeF_no (by omega)]
 | succ f ih =>
  intro g h low h1 h2
  by_cases hl : low < h
  ·obtain ⟨g',rfl⟩ : ∃ g',g = g' + 1:=⟨g - 1,by omega⟩
   have hn:=next_lt h low hl
   rw [routeF_yes hl,routeF_yes hl,ih g' (next h low) low (by omega) (by omega)]
  ·rw [routeF_no hl,routeF_no hl]
theorem route_cons {h low : Nat} (hl : low < h) : route h low = next h low :: route (next h low) low:=by
 unfold route
 obtain ⟨g,rfl⟩ : ∃ g,h = g + 1:=⟨h - 1,by omega⟩
 rw [routeF_yes hl]
 have hn:=next_lt (g + 1) low hl
 rw [routeF_fuel g _ _ _ (by omega) (Nat.le_refl _)]
theorem route_self {h low : Nat} (hl : ¬ low < h) : route h low = []:=routeF_no hl
theorem route_drop (k : Nat) : ∀ (h low : Nat),low ≤ h → (hk : k < (route h low).length) → low ≤ (route h low)[k] ∧ (route h low)[k] ≤ h ∧ route (route h low)[k] low = (route h low).drop (k + 1):=by
 induction k with
 | zero =>
  intro h low hl hk
  by_cases hlt : low < h
  ·have hn:=next_lt h low hlt
   simp only [route_cons hlt,List.getElem_cons_zero,List.drop_succ_cons,List.drop_zero]
   exact ⟨by omega,by omega,trivial⟩
  ·simp [route_self hlt] at hk
 | succ k ih =>
  intro h low hl hk
  by_cases hlt : low < h
  ·have hn:=next_lt h low hlt
   simp only [route_cons hlt,List.getElem_cons_succ,List.drop_succ_cons] at hk ⊢
   have:=ih (next h low) low (by omega) (by simpa using hk)
   exact ⟨this.1,by omega,this.2.2⟩
  ·simp [route_self hlt] at hk
theorem linksF_get (f : Nat) : ∀ (k h i : Nat),(hi : i < (linksF f h (2 ^ k)).length) → 2 ^ (k + i) ∣ h ∧ (linksF f h (2 ^ k))[i] = h - 2 ^ (k + i):=by
 induction f with
 | zero=>intro k h i hi; simp [linksF] at hi
 | succ f ih =>
  intro k h i hi
  by_cases hc : h % 2 ^ k = 0
  ·have e : linksF (f + 1) h (2 ^ k) = (h - 2 ^ k) :: linksF f h (2 ^ (k + 1)):=by rw [linksF_yes hc,Nat.pow_succ]
   simp only [e] at hi ⊢
   cases i with
   | zero=>exact ⟨Nat.dvd_of_mod_eq_zero hc,rfl⟩
   | succ i =>
    have:=ih (k + 1) h i (by simpa using hi)
    rw [show k + (i + 1) = k + 1 + i from by omega]
    exact ⟨this.1,by simpa using this.2⟩
  ·simp only [linksF_no hc] at hi; simp at hi
theorem links_get (h i : Nat) (hi : i < (links h).length) : 2 ^ (i + 1) ∣ h ∧ (links h)[i] = h - 2 ^ (i + 1):=by
 have:=linksF_get 22 1 h i hi
 rw [show 1 + i = i + 1 from by omega] at this
 exact this
end Skip
structure Hd where
 hgt : Int
 epo : Int
 vw : Int
 last : Bool
 par : List UInt8
 st : List UInt8
 rc : List UInt8
 tx : List UInt8
 mem : List UInt8
 nxt : List UInt8
 sk : List (List UInt8)
namespace Hd
def linksH (h : Int) : List Nat:=if 1 ≤ h ∧ h ≤ 1048576 then Skip.links h.toNat else []
def sumB (s : List UInt8) : Bool:=decide (s.length = 32)
def maybeB (s : List UInt8) : Bool:=s.isEmpty || sumB s
def inB (n : Int) : Bool:=decide (0 ≤ n) && decide (n ≤ 1048576)
def numsB (h : Hd) : Bool:=inB h.hgt && inB h.epo && inB h.vw
def firstB (h : Hd) : Bool:=if 0 < h.hgt then sumB h.par else h.par.isEmpty && decide (h.epo = 0) && decide (h.vw = 0) && h.last
def skB (h : Hd) : Bool:=decide (h.sk.length = (linksH h.hgt).length) && h.sk.all sumB
def restB (h : Hd) : Bool:=sumB h.tx && sumB h.mem && sumB h.nxt && maybeB h.st && maybeB h.rc
def ok (h : Hd) : Bool:=numsB h && firstB h && (skB h && restB h) && (h.last || decide (h.nxt = h.mem))
def flagW (b : Bool) : List UInt8 := [if b then 1 else 0]
def enc (h : Hd) : List UInt8 :=
 numW h.hgt.toNat ++ numW h.epo.toNat ++ numW h.vw.toNat ++ flagW h.last ++ textW h.par ++ textW h.st ++ textW h.rc ++ h.tx ++ h.mem ++ h.nxt ++ h.sk.flatten
def dig (h : Hd) : List UInt8:=if ok h then shaW (2 :: enc h) else []
theorem sumB_iff {s : List UInt8} : sumB s = true ↔ s.length = 32:=by simp [sumB]
structure Ok (h : Hd) : Prop where
 h0 : 0 ≤ h.hgt
 h1 : h.hgt ≤ 1048576
 e0 : 0 ≤ h.epo
 e1 : h.epo ≤ 1048576
 v0 : 0 ≤ h.vw
 v1 : h.vw ≤ 1048576
 par : (0 < h.hgt → h.par.length = 32) ∧ (h.hgt = 0 → h.par = [] ∧ h.epo = 0 ∧ h.vw = 0 ∧ h.last = true)
 sk : h.sk.length = (linksH h.hgt).length
 skl : ∀ s ∈ h.sk,s.length = 32
 tx : h.tx.length = 32
 mem : h.mem.length = 32
 nxt : h.nxt.length = 32
 st : h.st = [] ∨ h.st.length = 32
 rc : h.rc = [] ∨ h.rc.length = 32
 on : h.last = false → h.nxt = h.mem
theorem ok_iff (h : Hd) : ok h = true ↔ Ok h:=by
 unfold ok numsB inB firstB skB restB maybeB
 simp only [Bool.and_eq_true,Bool.or_eq_true,decide_eq_true_eq,sumB_iff,List.all_eq_true,List.isEmpty_iff]
 constructor
 ·rintro ⟨⟨⟨⟨⟨⟨a1,a2⟩,b1,b2⟩,c1,c2⟩,hf⟩,⟨s1,s2⟩,⟨⟨⟨t1,t2⟩,t3⟩,t4⟩,t5⟩,hl⟩
  refine ⟨a1,a2,b1,b2,c1,c2, ?_,s1,s2,t1,t2,t3,t4,t5,fun e => ?_⟩
  ·by_cases h0 : 0 < h.hgt
   ·rw [if_pos h0] at hf
    exact ⟨fun _=>sumB_iff.1 hf,fun e=>by omega⟩
   ·rw [if_neg h0] at hf
    simp only [Bool.and_eq_true,decide_eq_true_eq,List.isEmpty_iff] at hf
    exact ⟨fun e=>absurd e h0,fun _=>⟨hf.1.1.1,hf.1.1.2,hf.1.2,hf.2⟩⟩
  ·rcases hl with hl | hl
   ·rw [hl] at e; cases e
   ·exact hl
 ·rintro ⟨a1,a2,b1,b2,c1,c2,hp,s1,s2,t1,t2,t3,t4,t5,hl⟩
  refine ⟨⟨⟨⟨⟨⟨a1,a2⟩,b1,b2⟩,c1,c2⟩, ?_⟩,⟨s1,s2⟩,⟨⟨⟨t1,t2⟩,t3⟩,t4⟩,t5⟩, ?_⟩
  ·by_cases h0 : 0 < h.hgt
   ·rw [if_pos h0]
    exact sumB_iff.2 (hp.1 h0)
   ·rw [if_neg h0]
    obtain ⟨q1,q2,q3,q4⟩:=hp.2 (by omega)
    simp [q1,q2,q3,q4]
  ·cases e : h.last with
   | true=>exact .inl rfl
   | false=>exact .inr (hl e)
theorem linksH_len (h : Int) : (linksH h).length ≤ 22:=by
 unfold linksH
 split
 ·exact Skip.linksF_len _ _ _
 ·simp
theorem flat32_len : ∀ (l : List (List UInt8)),(∀ s ∈ l,s.length = 32) → l.flatten.length = 32 * l.length
 | [],_=>rfl
 | x :: l,h=>by
  have ih:=flat32_len l fun s hs=>h s (by simp [hs])
  have:=h x (by simp)
  simp only [List.flatten_cons,List.length_append,List.length_cons,ih]
  omega
theorem maybe_le {s : List UInt8} (h : s = [] ∨ s.length = 32) : s.length ≤ 32:=by
 rcases h with rfl | h
 ·simp
 ·omega
theorem Ok.par_le {h : Hd} (o : Ok h) : h.par.length ≤ 32:=by
 by_cases h0 : 0 < h.hgt
 ·have:=o.par.1 h0; omega
 ·have:=(o.par.2 (by have:=o.h0; omega)).1; rw [this]; simp
theorem Ok.sk_le {h : Hd} (o : Ok h) : h.sk.length ≤ 22:=by rw [o.sk]; exact linksH_len _
theorem textW_len {s : List UInt8} (h : s.length ≤ 32) : (textW s).length ≤ 41:=by
 have:=numW_len s.length (by omega)
 simp only [textW,List.length_append]
 omega
theorem Ok.enc_len {h : Hd} (o : Ok h) : (enc h).length ≤ 1000:=by
 have a:=numW_len h.hgt.toNat (by have:=o.h1; omega)
 have b:=numW_len h.epo.toNat (by have:=o.e1; omega)
 have c:=numW_len h.vw.toNat (by have:=o.v1; omega)
 have d:=textW_len o.par_le
 have e:=textW_len (maybe_le o.st)
 have f:=textW_len (maybe_le o.rc)
 have g:=flat32_len h.sk o.skl
 have k:=o.sk_le
 have:=o.tx
 have:=o.mem
 have:=o.nxt
 simp only [enc,flagW,List.length_append,List.length_cons,List.length_nil]
 omega
theorem dig_len {h : Hd} (o : ok h = true) : (dig h).length = 32:=by
 unfold dig
 rw [if_pos o]
 rw [shaW_length]
def link (h : Hd) (at_ : Int) : List UInt8 × Nat :=
 if ok h = false then ([],190)
 else if 0 < h.hgt ∧ at_ = h.hgt - 1 then (h.par,0)
 else match (linksH h.hgt).findIdx? (fun (n : Nat)=>decide ((n : Int) = at_)) with
  | some k=>((h.sk[k]?).getD [],0)
  | none=>([],5)
end Hd
end Go.Proofs.YtnelhjfjkkdoaaaGreatDoor
namespace Go.Proofs.YtnelhjfjkkdoaaaGreatDoor
open Go.RowKit Go.Instr
attribute [local go_sem] ba_get ByteArray.mk_append_mk
theorem extract_drop (s : List UInt8) (c : Nat) : (ByteArray.mk s.toArray).extract c (ByteArray.mk s.toArray).size = ⟨(s.drop c).toArray⟩:=by
 apply ByteArray.ext
 rw [ByteArray.data_extract]
 show s.toArray.extract c s.toArray.size = _
 rw [List.extract_toArray]
 simp [List.take_of_length_le]
theorem extract_take (s : List UInt8) (c : Nat) : (ByteArray.mk s.toArray).extract 0 c = ⟨(s.take c).toArray⟩:=by
 apply ByteArray.ext
 rw [ByteArray.data_extract]
 show s.toArray.extract 0 c = _
 rw [List.extract_toArray]
 simp
theorem run_drop (s : List UInt8) (c : Nat) (h : c ≤ s.length) (w : World) : (Instr.slice 9 (.string ⟨s.toArray⟩) (some (.int .i64 (c : Int))) none none).run Tryz.prog w = .ok (.string ⟨(s.drop c).toArray⟩) w:=by
 have:=run_slice_string_l (P:=Tryz.prog) (t:=9) (s:=⟨s.toArray⟩) (w:=w) Tryz.underlying9 .i64 (c : Int) (by omega) (by show (c : Int) ≤ (s.toArray.size : Nat); simp; omega)
 rwa [show ((c : Int)).toNat = c by omega,extract_drop] at this
theorem run_take (s : List UInt8) (c : Nat) (h : c ≤ s.length) (w : World) : (Instr.slice 9 (.string ⟨s.toArray⟩) none (some (.int .i64 (c : Int))) none).run Tryz.prog w = .ok (.string ⟨(s.take c).toArray⟩) w:=by
 have:=run_slice_string_h (P:=Tryz.prog) (t:=9) (s:=⟨s.toArray⟩) (w:=w) Tryz.underlying9 .i64 (c : Int) (by omega) (by show (c : Int) ≤ (s.toArray.size : Nat); simp; omega)
 rwa [show ((c : Int)).toNat = c by omega,extract_take] at this
theorem run_tail (b : UInt8) (r : List UInt8) (w : World) : (Instr.slice 9 (.string ⟨(b :: r).toArray⟩) (some (.int .i64 1)) none none).run Tryz.prog w = .ok (.string ⟨r.toArray⟩) w:=run_drop (b :: r) 1 (by simp) w
theorem extract_mid (s : List UInt8) (a n : Nat) : (ByteArray.mk s.toArray).extract a (a + n) = ⟨((s.drop a).take n).toArray⟩:=by
 apply ByteArray.ext
 rw [ByteArray.data_extract]
 show s.toArray.extract a (a + n) = _
 rw [List.extract_toArray]
 simp
def RdB (w : World) (g : Nat) (all : List UInt8) (at_ code : Nat) : Prop:=Blk w g 200 #[.string ⟨all.toArray⟩,.int .i64 (at_ : Int),.int .i64 (code : Int)]
theorem RdB.cells {w : World} {g : Nat} {all : List UInt8} {a c : Nat} (h : RdB w g all a c) : w.cell? ⟨g,0,none⟩ = some (.string ⟨all.toArray⟩) ∧ w.cell? ⟨g,1,none⟩ = some (.int .i64 (a : Int)) ∧ w.cell? ⟨g,2,none⟩ = some (.int .i64 (c : Int)) ∧ w.frozen? ⟨g,1,none⟩ = false ∧ w.frozen? ⟨g,2,none⟩ = false :=
 ⟨Blk.cell h 0,Blk.cell h 1,Blk.cell h 2,Blk.frozen h 1,Blk.frozen h 2⟩
theorem code_Read (all : List UInt8) (w : World) :
  Calls Tryz.prog 79 #[.string ⟨all.toArray⟩] w fun e w'=>e = .returned (.pointer (some ⟨w.heap.size,0,none⟩)) ∧ w' = w.alloc (.cells #[.string ⟨all.toArray⟩,.int .i64 0,.int .i64 0] 200):=by
 go_enter Tryz.func79,Tryz.ntmps79
 go_wp2
 go_ret
 exact ⟨rfl,rfl⟩
def RdEnd (w : World) (g : Nat) (all : List UInt8) (v : Value) (at_ code : Nat) (e : Ending) (w' : World) : Prop:=e = .returned v ∧ RdB w' g all at_ code ∧ w.grownBy w' (some g)
theorem code_refused (w : World) (g : Nat) (all : List UInt8) (a c : Nat) (h : RdB w g all a c) (from_ e : Nat) :
  Calls Tryz.prog 120 #[.pointer (some ⟨g,0,none⟩),.int .i64 (from_ : Int),.int .i64 (e : Int)] w (RdEnd w g all (.tuple #[]) (if c = 0 then from_ else a) (if c = 0 then e else c)):=by
 obtain ⟨c0,c1,c2,f1,f2⟩:=h.cells
 have HH:=Lib.hid h
 by_cases hc : c = 0
 ·subst hc
  rw [if_pos rfl,if_pos rfl]
  have HP : Hid (∀ w',RdB w' g all from_ e → w.grownBy w' (some g) → RdEnd w g all (.tuple #[]) from_ e (.returned (.tuple #[])) w'):=Lib.hid (fun w' a b=>⟨rfl,a,b⟩)
  generalize RdEnd w g all (.tuple #[]) from_ e = P at HP ⊢
  clear h
  go_enter Tryz.func120,Tryz.ntmps120
  go_wp2
  go_end0
  refine HP.out _ ?_ ?_
  ·exact (Blk.set_ (Blk.set_ HH.out 1 (.int .i64 (from_ : Int))) 2 (.int .i64 (e : Int)))
  ·exact grown_set0 (grown_set0 (World.grownBy.refl _ _) _ _) _ _
 ·rw [if_neg hc,if_neg hc]
  have HP : Hid (∀ w',RdB w' g all a c → w.grownBy w' (some g) → RdEnd w g all (.tuple #[]) a c (.returned (.tuple #[])) w'):=Lib.hid (fun w' a b=>⟨rfl,a,b⟩)
  generalize RdEnd w g all (.tuple #[]) a c = P at HP ⊢
  have hc1 : ((c : Int) == 0) = false:=by simp; exact hc
  clear h hc
  go_enter Tryz.func120,Tryz.ntmps120
  go_wp2
  go_end0
  exact HP.out _ HH.out (World.grownBy.refl _ _)
theorem code_Left (w : World) (g : Nat) (all : List UInt8) (a c : Nat) (h : RdB w g all a c) (hl : all.length ≤ 1000000) (ha : a ≤ all.length) :
  Calls Tryz.prog 121 #[.pointer (some ⟨g,0,none⟩)] w (RdEnd w g all (.int .i64 ((all.length - a : Nat) : Int)) a c):=by
 obtain ⟨c0,c1,c2,f1,f2⟩:=h.cells
 have HH:=Lib.hid h
 have hv : IntKind.i64.wrap ((all.length : Int) - a) = ((all.length - a : Nat) : Int):=by rw [IntWalk.i64_in _ (by omega)]; omega
 have HP : Hid (∀ w',RdB w' g all a c → w.grownBy w' (some g) → RdEnd w g all (.int .i64 ((all.length - a : Nat) : Int)) a c (.returned (.int .i64 ((all.length - a : Nat) : Int))) w'):=Lib.hid (fun w' a b=>⟨rfl,a,b⟩)
 generalize RdEnd w g all (.int .i64 ((all.length - a : Nat) : Int)) a c = P at HP ⊢
 generalize ((all.length - a : Nat) : Int) = d at *
 clear h
 go_enter Tryz.func121,Tryz.ntmps121
 go_wp2
 go_quiet (fail)
 go_wp2
 exact HP.out _ HH.out ⟨rfl,rfl,rfl,Nat.le_refl _,fun _ _ _=>rfl⟩
set_option maxHeartbeats 1000000 in
theorem code_take (w : World) (g : Nat) (all : List UInt8) (a c : Nat) (h : RdB w g all a c) (hl : all.length ≤ 1000000) (ha : a ≤ all.length) (n : Nat) (hn : n < 9223372036854775808) :
  Calls Tryz.prog 155 #[.pointer (some ⟨g,0,none⟩),.int .i64 (n : Int)] w (RdEnd w g all (.tuple #[.string ⟨(if n ≤ (all.drop a).length then (all.drop a).take n else []).toArray⟩,.bool (decide (n ≤ (all.drop a).length))]) (if n ≤ (all.drop a).length then a + n else a) c):=by
 obtain ⟨c0,c1,c2,f1,f2⟩:=h.cells
 have HH:=Lib.hid h
 have hv : IntKind.i64.wrap ((all.length : Int) - a) = (all.length : Int) - a:=IntWalk.i64_in _ (by omega)
 rw [List.length_drop]
 by_cases hle : n ≤ all.length - a
 ·rw [if_pos hle,if_pos hle,decide_eq_true hle]
  have HP : Hid (∀ w',RdB w' g all (a + n) c → w.grownBy w' (some g) → RdEnd w g all (.tuple #[.string ⟨((all.drop a).take n).toArray⟩,.bool true]) (a + n) c (.returned (.tuple #[.string ⟨((all.drop a).take n).toArray⟩,.bool true])) w'):=Lib.hid (fun w' a b=>⟨rfl,a,b⟩)
  generalize RdEnd w g all (.tuple #[.string ⟨((all.drop a).take n).toArray⟩,.bool true]) (a + n) c = P at HP ⊢
  have hgt : ((all.length : Int) - a < n) = False:=by simp; omega
  have hv2 : IntKind.i64.wrap ((a : Int) + n) = (a : Int) + n:=IntWalk.i64_in _ (by omega)
  have hr : ∀ W,(Instr.slice 9 (.string ⟨all.toArray⟩) (some (.int .i64 (a : Int))) (some (.int .i64 ((a : Int) + n))) none).run Tryz.prog W = .ok (.string ⟨((all.drop a).take n).toArray⟩) W:=fun W=>by
   have:=run_slice_string_if (P:=Tryz.prog) (w:=W) 9 ⟨all.toArray⟩ .i64 .i64 (a : Int) ((a : Int) + n) Tryz.underlying9
   rw [if_pos ⟨by omega,by show (a : Int) + n ≤ (all.toArray.size : Nat); simp; omega⟩,if_pos ⟨by omega,by omega⟩] at this
   rwa [show ((a : Int)).toNat = a by omega,show ((a : Int) + n).toNat = a + n by omega,extract_mid] at this
  have hs0 : (a : Int) + n ≤ 1000000:=by omega
  clear h hle
  generalize (all.drop a).take n = piece at *
  go_enter Tryz.func155,Tryz.ntmps155
  go_wp2
  go_quiet (fail)
  go_wp2
  go_quiet (fail)
  go_wp2
  exact HP.out _ (Blk.set_ HH.out 1 (.int .i64 ((a : Int) + n))) (grown_set0 (only_drewN (World.grownBy.refl _ _) _) _ _)
 ·rw [if_neg hle,if_neg hle,decide_eq_false hle]
  have HP : Hid (∀ w',RdB w' g all a c → w.grownBy w' (some g) → RdEnd w g all (.tuple #[.string ⟨[].toArray⟩,.bool false]) a c (.returned (.tuple #[.string ⟨#[]⟩,.bool false])) w'):=Lib.hid (fun w' a b=>⟨rfl,a,b⟩)
  generalize RdEnd w g all (.tuple #[.string ⟨[].toArray⟩,.bool false]) a c = P at HP ⊢
  have hgt : ((all.length : Int) - a < n) = True:=by simp; omega
  clear h hle
  go_enter Tryz.func155,Tryz.ntmps155
  go_wp2
  go_quiet (fail)
  go_wp2
  exact HP.out _ HH.out ⟨rfl,rfl,rfl,Nat.le_refl _,fun _ _ _=>rfl⟩
theorem valBE_take (b : List UInt8) (i : Nat) (hi : i < b.length) : valBE (b.take (i + 1)) = valBE (b.take i) * 256 + (b.getD i 0).toNat:=by
 rw [List.take_succ_eq_append_getElem hi,valBE_snoc,List.getD_eq_getElem?_getD,List.getElem?_eq_getElem hi]
 rfl
theorem valBE_mono (b : List UInt8) : ∀ i,valBE (b.take i) ≤ valBE b:=by
 induction b using snoc_ind with
 | h0=>intro i; simp
 | h1 c x ih =>
  intro i
  rw [valBE_snoc]
  by_cases h : i ≤ c.length
  ·rw [List.take_append_of_le_length h]
   have:=ih i
   omega
  ·rw [List.take_of_length_le (by simp; omega),valBE_snoc]
   omega
theorem or_of' {x y : Nat} (k : Nat) (hy : y < 2 ^ k) : x * 2 ^ k ||| y = x * 2 ^ k + y:=by
 rw [← Nat.shiftLeft_eq,Nat.shiftLeft_add_eq_or_of_lt hy]
set_option maxRecDepth 100000 in
theorem i64_or_byte (n : Nat) (b : Nat) (hb : b < 256) (h : n * 256 + b < 9223372036854775808) : bits .or .i64 ((n : Int) * 256) (b : Int) = ((n * 256 + b : Nat) : Int):=by
 have e1 : (n : Int) * 256 = ((n * 256 : Nat) : Int):=by omega
 have h1 : n * 256 < 9223372036854775808:=by omega
 have h2 : b < 9223372036854775808:=by omega
 have e3 : (2 : Nat) ^ 8 = 256:=by decide
 have e2:=or_of' (x:=n) 8 (y:=b) (by rw [e3]; exact hb)
 rw [e3] at e2
 rw [e1,i64_or_nat (n * 256) b h1 h2,e2]
theorem run_byte (l : List UInt8) (i : Nat) (hi : i < l.length) (W : World) : (Instr.index 9 (.string ⟨l.toArray⟩) (.int .i64 (i : Int))).run Tryz.prog W = .ok (.int .u8 ((l.getD i 0).toNat : Int)) W := by
  have hsz : ((i : Int)).toNat < (ByteArray.mk l.toArray).size := by simpa [ByteArray.size] using hi
  rw [run_index_string W 9 ⟨l.toArray⟩ .i64 (i : Int) Tryz.underlying9]
  have e : (ByteArray.mk l.toArray)[((i : Int)).toNat]'hsz = l.getD i 0 := by
    rw [ba_get]
    simp [List.getD_eq_getElem?_getD, hi]
  rw [dif_pos ⟨by omega, by have e2 : (ByteArray.mk l.toArray).size = l.length := by simp [ByteArray.size]
                            omega⟩, e]
set_option maxRecDepth 100000 in
set_option maxHeartbeats 1000000 in
theorem number_loop (b : List UInt8) (hl : b.length ≤ 8) (hv : valBE b < 9223372036854775808) (w0 : World)
  (Q : Exit → Act → World → Prop) (p0 : Value)
  (hQ : ∀ (s1 s2 s3 s4 s5 s6 s8 s9 s10 s11 s12 s13 s14 s15 s16 s17 s18 s19 s20 s21 s22 s23 s24 s25 s26 s27 s28 s29 s30 s31 s32 s33 s34 s35 s36 s37 s38 s39 s40 s41 s42 s43 s44 s45 s46 s47 s48 s49 s50 s51 s52 s53 s54 s55 s56 s57 s58 s59 s60 s61 s62 s63 s64 s65 s66 s67 s68 s69 : Value),Q (.exit 0) { tmps:=#[p0,s1,s2,s3,s4,s5,s6,.int .i64 (valBE b : Int),s8,s9,s10,s11,s12,s13,s14,s15,s16,s17,s18,s19,s20,s21,s22,s23,s24,s25,s26,s27,s28,s29,s30,s31,s32,s33,s34,s35,s36,s37,s38,s39,s40,s41,s42,s43,s44,s45,s46,s47,s48,s49,s50,s51,s52,s53,s54,s55,s56,s57,s58,s59,s60,s61,s62,s63,s64,s65,s66,s67,s68,s69],defers := [] } w0)
  (s1 s2 s3 s4 s5 s8 s9 s10 s11 s12 s13 s14 s15 s16 s17 s18 s19 s20 s21 s22 s23 s24 s25 s26 s27 s28 s29 s30 s31 s32 s33 s34 s35 s36 s37 s38 s39 s40 s41 s42 s43 s44 s45 s46 s47 s48 s49 s50 s51 s52 s53 s54 s55 s56 s59 s60 s61 s62 s63 s64 s65 s66 s67 s68 s69 : Value) :
  Code.wp Tryz.prog (.loop (loopAt Tryz.f119 0)) Q { tmps:=#[p0,s1,s2,s3,s4,s5,.string ⟨b.toArray⟩,.int .i64 0,s8,s9,s10,s11,s12,s13,s14,s15,s16,s17,s18,s19,s20,s21,s22,s23,s24,s25,s26,s27,s28,s29,s30,s31,s32,s33,s34,s35,s36,s37,s38,s39,s40,s41,s42,s43,s44,s45,s46,s47,s48,s49,s50,s51,s52,s53,s54,s55,s56,.int .i64 b.length,.int .i64 0,s59,s60,s61,s62,s63,s64,s65,s66,s67,s68,s69],defers := [] } w0:=by
 have HQ:=Lib.hid hQ
 clear hQ
 refine wp_loop_ghost_k (fun k a wr => ∀ Φ : Act → Prop,(∀ (s1 s2 s3 s4 s5 s8 s9 s10 s11 s12 s13 s14 s15 s16 s17 s18 s19 s20 s21 s22 s23 s24 s25 s26 s27 s28 s29 s30 s31 s32 s33 s34 s35 s36 s37 s38 s39 s40 s41 s42 s43 s44 s45 s46 s47 s48 s49 s50 s51 s52 s53 s54 s55 s56 s59 s60 s61 s62 s63 s64 s65 s66 s67 s68 s69 : Value) (i n : Nat),(i + k = b.length ∧ valBE (b.take i) = n ∧ wr = w0) → Φ { tmps:=#[p0,s1,s2,s3,s4,s5,.string ⟨b.toArray⟩,.int .i64 (n : Int),s8,s9,s10,s11,s12,s13,s14,s15,s16,s17,s18,s19,s20,s21,s22,s23,s24,s25,s26,s27,s28,s29,s30,s31,s32,s33,s34,s35,s36,s37,s38,s39,s40,s41,s42,s43,s44,s45,s46,s47,s48,s49,s50,s51,s52,s53,s54,s55,s56,.int .i64 b.length,.int .i64 (i : Int),s59,s60,s61,s62,s63,s64,s65,s66,s67,s68,s69],defers := [] }) → Φ a) (b.length) ?_ ?_
 ·refine fun Φ hΦ=>hΦ _ _ _ _ _ _ _ _ _ _ _ _ _ _ _ _ _ _ _ _ _ _ _ _ _ _ _ _ _ _ _ _ _ _ _ _ _ _ _ _ _ _ _ _ _ _ _ _ _ _ _ _ _ _ _ _ _ _ _ _ _ _ _ _ _ (0) (0) ?_
  exact ⟨by omega,by simp [valBE],rfl⟩
 ·intro k1 a1 wr1 hI1 J1 K1 hJ1 hK1
  refine hI1 (fun a=>Code.wp _ _ _ a _) ?_
  clear hI1 a1
  intro s0 s1 s2 s3 s4 s5 s6 s7 s8 s9 s10 s11 s12 s13 s14 s15 s16 s17 s18 s19 s20 s21 s22 s23 s24 s25 s26 s27 s28 s29 s30 s31 s32 s33 s34 s35 s36 s37 s38 s39 s40 s41 s42 s43 s44 s45 s46 s47 s48 s49 s50 s51 s52 s53 s54 s55 s56 s57 s58 s59 s60 s61 s62 s63 s64 i n hrel
  show Code.wp _ _ _ _ _
  conv=>arg 2; whnf
  obtain ⟨h1,h2,rfl⟩:=hrel
  by_cases hi : i < b.length
  ·have h3:=valBE_take b i hi
   have h4:=valBE_mono b (i + 1)
   have hx:=(b.getD i 0).toNat_lt
   have HN : Hid (valBE (b.take (i + 1)) = n * 256 + (b.getD i 0).toNat):=Lib.hid (by rw [h3,h2])
   have hsum : n * 256 + (b.getD i 0).toNat < 9223372036854775808:=by rw [h2] at h3; omega
   have hor:=i64_or_byte n (b.getD i 0).toNat (by omega) hsum
   have hix:=fun W=>run_byte b i hi W
   have HI:=Lib.hid h1
   have hi1 : (i : Int) < b.length:=by omega
   have hi0 : (0 : Int) ≤ i:=by omega
   have hl8 : (b.length : Int) ≤ 8:=by omega
   have hn0 : (0 : Int) ≤ n:=by omega
   have hn1 : (n : Int) ≤ 36028797018963967:=by omega
   clear h1 h2 h3 h4
   generalize b.getD i 0 = x at *
   go_wp2_with fail
   refine Handed.intro (b.length - (i + 1)) ?_ (hJ1 _ _ _ (fun Φ hΦ=>hΦ _ _ _ _ _ _ _ _ _ _ _ _ _ _ _ _ _ _ _ _ _ _ _ _ _ _ _ _ _ _ _ _ _ _ _ _ _ _ _ _ _ _ _ _ _ _ _ _ _ _ _ _ _ _ _ _ _ _ _ _ _ _ _ _ _ (i + 1) (n * 256 + x.toNat) ?_))
   ·have:=HI.out
    show b.length - (i + 1) < k1
    omega
   ·have:=HI.out
    exact ⟨by omega,HN.out,rfl⟩
  ·have e : b.take i = b:=List.take_of_length_le (by omega)
   rw [e] at h2
   subst h2
   have hi2 : ((i : Int) < b.length) = False:=by simp; omega
   clear h1 hi e
   go_wp2_with fail
   exact HQ.out _ _ _ _ _ _ _ _ _ _ _ _ _ _ _ _ _ _ _ _ _ _ _ _ _ _ _ _ _ _ _ _ _ _ _ _ _ _ _ _ _ _ _ _ _ _ _ _ _ _ _ _ _ _ _ _ _ _ _ _ _ _ _ _ _ _ _ _
end Go.Proofs.YtnelhjfjkkdoaaaGreatDoor
