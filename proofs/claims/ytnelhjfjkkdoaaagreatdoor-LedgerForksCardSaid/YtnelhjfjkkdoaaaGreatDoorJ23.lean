import Derived.Test.YtnelhjfjkkdoaaaGreatDoorJ20
import Derived.Deep.MidRow
import Derived.Test.YtnelhjfjkkdoaaaGreatDoorJ10
import Derived.BigFrame
import Derived.Test.YtnelhjfjkkdoaaaGreatDoorJ01
import Derived.Test.YtnelhjfjkkdoaaaGreatDoorJ07
import Derived.Deep.DeepCutAuto
import Derived.Test.YtnelhjfjkkdoaaaGreatDoorJ05
import Derived.Test.YtnelhjfjkkdoaaaGreatDoorJ04
set_option linter.unusedSimpArgs false
set_option linter.unusedVariables false
namespace Go.Proofs.YtnelhjfjkkdoaaaGreatDoor
open Go.RowKit
theorem Blk.setAll {g : Nat} {t : TypeId} : ∀ (vs A B R : List Value) (w : World),B.length = vs.length → Blk w g t (A ++ (B ++ R)).toArray → Blk (w.setCells g A.length vs) g t (A ++ (vs ++ R)).toArray
 | [],A,B,R,w,h,hb=>by
  have : B = []:=List.eq_nil_of_length_eq_zero h
  subst this
  exact hb
 | v :: r,A, [],R,w,h,hb=>by simp at h
 | v :: r,A,b :: B,R,w,h,hb=>by
  have h1:=hb.set_ A.length v
  rw [List.setIfInBounds_toArray,List.set_append_right _ _ (Nat.le_refl _),Nat.sub_self] at h1
  simp only [List.cons_append,List.set_cons_zero] at h1
  have h2:=Blk.setAll r (A ++ [v]) B R (w.setCell ⟨g,A.length,none⟩ v) (by simpa using h) (by simpa using h1)
  rw [List.length_append] at h2
  simpa [World.setCells] using h2
theorem grown_setAll {g : Nat} {a : World} : ∀ (vs : List Value) (o : Nat) (w : World),a.grownBy w (some g) → a.grownBy (w.setCells g o vs) (some g)
 | [],_,_,h=>h
 | v :: r,o,w,h=>grown_setAll r (o + 1) _ ⟨h.os,h.tape,h.output,by simpa [World.setCell] using h.size,fun j hj hne=>(Below.heap_setCell _ _ _ _ (fun e=>hne (by rw [e]))).trans (h.block j hj hne)⟩
section
variable {w W : World} {L : List (Nat × Nat × Array Value)} {g t : Nat} {cs : Array Value}
theorem Live.hall (h : Hid (Live w W L)) (i : Nat) (vs : List Value) (hi : L[i]? = some (g,t,cs)) (hl : cs.size = vs.length) : Hid (Live w (W.setCells g 0 vs) (L.set i (g,t,vs.toArray))):=by
 refine Lib.hid (h.out.grown i hi (grown_setAll vs 0 W (World.grownBy.refl _ _)) ?_)
 have hb:=h.out.blk i hi
 have:=Blk.setAll vs [] cs.toList [] W (by rw [← hl]; exact Array.length_toList) (by simpa using hb)
 simpa using this
theorem Live.there (h : Live w W L) (i : Nat) (n : Nat) (hi : L[i]? = some (g,t,cs)) (hn : n ≤ cs.size) : W.there g 0 n:=fun j hj=>by
 rw [Nat.zero_add]
 refine ⟨?_,h.frozen i j hi⟩
 rw [(h.blk i hi).cell,Array.getElem?_eq_getElem (by omega)]; rfl
end
end Go.Proofs.YtnelhjfjkkdoaaaGreatDoor
namespace Go.Proofs.YtnelhjfjkkdoaaaGreatDoor
open Go.RowKit Go.Instr
attribute [local go_sem] ba_get ByteArray.mk_append_mk
theorem Live.one {w W : World} {g t : Nat} {cs : Array Value} (hb : Below w.heap.size w W) (hg : w.heap.size ≤ g) (h : Blk W g t cs) : Live w W [(g,t,cs)] :=
 ⟨hb,fun x hx=>by rw [List.mem_singleton] at hx; subst hx; exact ⟨hg,h⟩,List.pairwise_singleton _ _⟩
theorem results_cell2 {P : Program} {fn : Func} {tmps : Array Value} {w : World} {a b : Tmp} {t : TypeId} {p : Addr} {v u : Value} (hr : fn.results = #[.cell a t,.tmp b]) (ha : tmps.getD a undef = .pointer (some p)) (hv : (loadVar t p).run P w = .ok v w) (hb : tmps.getD b undef = u) :
  (results fn tmps).run P w = .ok (.tuple #[v,u]) w:=by
 unfold results
 rw [hr]
 rw [Array.getD_eq_getD_getElem?] at ha hb
 simp [Sem.run_bind,ha,hv,hb,asAddr]
end Go.Proofs.YtnelhjfjkkdoaaaGreatDoor
namespace Go.Proofs.YtnelhjfjkkdoaaaGreatDoor
open Go.RowKit
theorem flat_len {α : Type} (f : α → List Value) (k : Nat) (hf : ∀ x,(f x).length = k) : ∀ l : List α,(l.flatMap f).length = l.length * k
 | []=>by simp
 | x :: l=>by
  rw [List.flatMap_cons,List.length_append,flat_len f k hf l,hf x,List.length_cons,Nat.succ_mul]; omega
theorem flat_at {α : Type} (f : α → List Value) (k : Nat) (hf : ∀ x,(f x).length = k) : ∀ (l : List α) (i : Nat) (hi : i < l.length) (j : Nat),j < k → (l.flatMap f)[i * k + j]? = (f l[i])[j]?
 | [],i,hi,_,_=>absurd hi (by simp)
 | x :: l,0,_,j,hj=>by
  rw [List.flatMap_cons,Nat.zero_mul,Nat.zero_add,List.getElem?_append_left (by rw [hf x]; exact hj)]; rfl
 | x :: l,i + 1,hi,j,hj=>by
  rw [List.flatMap_cons,List.getElem?_append_right (by rw [hf x,Nat.succ_mul]; omega),hf x]
  rw [show (i + 1) * k + j - k = i * k + j by rw [Nat.succ_mul]; omega]
  exact flat_at f k hf l i (by simpa using hi) j hj
theorem flat_cells {α : Type} {f : α → List Value} {k : Nat} (hf : ∀ x,(f x).length = k) (hk : 0 < k) {w : World} {B : Nat} {A : Option Addr} {l : List α} (h : Reads w B k A l.length (l.flatMap f)) {i : Nat} (hi : i < l.length) :
  ∃ ad off,A = some ⟨ad,off,none⟩ ∧ ad < B ∧ ∀ W,Below B w W → ∀ (j : Nat) (v : Value),(f l[i])[j]? = some v → W.cell? ⟨ad,off + i * k + j,none⟩ = some v:=by
 obtain ⟨ad,off,rfl,hb,hc⟩:=h.form (by omega) hk
 refine ⟨ad,off,rfl,hb,fun W hW j v hv => ?_⟩
 have hj : j < k:=by have:=(List.getElem?_eq_some_iff.1 hv).1; rwa [hf] at this
 rw [hW.cell (p:=⟨ad,off + i * k + j,none⟩) hb]
 have h1:=flat_at f k hf l i hi j hj
 rw [hv] at h1
 obtain ⟨h2,h3⟩:=List.getElem?_eq_some_iff.1 h1
 have:=hc (i * k + j) h2
 rw [h3] at this
 rw [Nat.add_assoc]; exact this
end Go.Proofs.YtnelhjfjkkdoaaaGreatDoor
namespace Go.Proofs.YtnelhjfjkkdoaaaGreatDoor
open Go.RowKit Go.Instr
attribute [local go_sem] ba_get ByteArray.mk_append_mk
def mcell (m : Pw.Mem) : List Value := [.string ⟨m.1.toArray⟩,.int .i64 m.2]
abbrev mcells (l : List Pw.Mem) : List Value:=l.flatMap mcell
theorem mcell_len (m : Pw.Mem) : (mcell m).length = 2:=rfl
theorem mem_cells {w : World} {B : Nat} {A : Option Addr} {l : List Pw.Mem} (h : Reads w B 2 A l.length (mcells l)) {i : Nat} (hi : i < l.length) :
  ∃ ad off,A = some ⟨ad,off,none⟩ ∧ ad < B ∧ ∀ W,Below B w W → W.cell? ⟨ad,off + i * 2,none⟩ = some (.string ⟨l[i].1.toArray⟩) ∧ W.cell? ⟨ad,off + i * 2 + 1,none⟩ = some (.int .i64 l[i].2):=by
 obtain ⟨ad,off,h1,h2,h3⟩:=flat_cells mcell_len (by decide) h hi
 exact ⟨ad,off,h1,h2,fun W hW=>⟨h3 W hW 0 _ rfl,h3 W hW 1 _ rfl⟩⟩
theorem bl_leq (a b : List UInt8) : (Op.bytesLess a b || a == b) = !Op.bytesLess b a:=by
 cases h : Op.bytesLess b a with
 | true =>
  have h1:=bl_asymm b a h
  have h2 : (a == b) = false:=by
   rw [beq_eq_false_iff_ne]; intro e; subst e; rw [bl_irrefl] at h; cases h
  rw [h1,h2]; rfl
 | false =>
  cases h1 : Op.bytesLess a b with
  | true=>rfl
  | false=>rw [bl_tri a b h1 h]; simp
def codeM (b : Bool) : Int:=if b then 0 else 50
set_option maxRecDepth 100000 in
set_option maxHeartbeats 1000000 in
theorem power_Check (w : World) (l : List Pw.Mem) (hs : ∀ x ∈ l,x.1.length ≤ 9223372036854775807) (A : Option Addr) (c : Nat) (HR : Reads w w.heap.size 2 A l.length (mcells l)) :
  Calls Tryz.prog 122 #[.slice A l.length c] w (Ret w (.int .i64 (codeM (Pw.okM l)))):=by
 have HP : Hid (∀ (b : Bool) w',Pw.okM l = b → Below w.heap.size w w' → Ret w (.int .i64 (codeM (Pw.okM l))) (.returned (.int .i64 (codeM b))) w'):=Lib.hid (fun b w' h1 h2=>by rw [h1]; exact ⟨rfl,h2⟩)
 generalize Ret w (.int .i64 (codeM (Pw.okM l))) = P at HP ⊢
 have HPt:=Lib.hid (fun w' h1 h2=>HP.out true w' h1 h2)
 have HPf:=Lib.hid (fun w' h1 h2=>HP.out false w' h1 h2)
 simp only [codeM,if_true,Bool.false_eq_true,if_false] at HPt HPf
 clear HP
 by_cases h0 : l = []
 ·subst h0
  go_enter Tryz.func122,Tryz.ntmps122
  go_wp2
  exact HPf.out _ rfl (Below.refl _ _)
 have hl0 : ((l.length : Int) == 0) = false:=by rw [beq_eq_false_iff_ne]; intro e; exact h0 (List.eq_nil_of_length_eq_zero (by omega))
 by_cases h7 : 7 < l.length
 ·have hl7 : (7 : Int) < l.length:=by omega
  have HNo : Hid (Pw.okM l = false):=Lib.hid (by unfold Pw.okM; rw [decide_eq_false (show ¬ l.length ≤ 7 by omega)]; simp)
  clear h0 h7 HR hs
  go_enter Tryz.func122,Tryz.ntmps122
  go_wp2
  exact HPf.out _ HNo.out (Below.refl _ _)
 have hl7 : ((7 : Int) < l.length) = False:=by simp; omega
 have HK : Hid (Pw.okM l = Pw.risM [] l):=Lib.hid (by
  unfold Pw.okM
  rw [decide_eq_true (show 1 ≤ l.length from List.length_pos_iff.2 h0),decide_eq_true (show l.length ≤ 7 by omega)]; rfl)
 have HRR:=Lib.hid HR
 have HS:=Lib.hid hs
 have HL7:=Lib.hid (Nat.le_of_not_lt h7)
 clear HR hs h0 h7
 go_enter Tryz.func122,Tryz.ntmps122
 go_wp2_with fail
 refine wp_loop_ghost_k (fun k a wr => ∀ Φ : Act → Prop,(∀ (s0 s1 s2 s4 s5 s6 s7 s8 s9 s10 s11 s12 s13 s17 s18 s19 s20 s21 s22 s23 s24 s25 s26 s27 s28 s29 s30 s31 s32 s33 s34 s35 s36 s37 s38 s39 s40 s41 s42 : Value) (i : Nat) (last : List UInt8),(i + k = l.length ∧ Pw.risM [] l = Pw.risM last (l.drop i) ∧ Below w.heap.size w wr) → Φ { tmps:=#[s0,s1,s2,.string ⟨last.toArray⟩,s4,s5,s6,s7,s8,s9,s10,s11,s12,s13,.slice A l.length c,.int .i64 l.length,.int .i64 (i : Int),s17,s18,s19,s20,s21,s22,s23,s24,s25,s26,s27,s28,s29,s30,s31,s32,s33,s34,s35,s36,s37,s38,s39,s40,s41,s42],defers := [] }) → Φ a) (l.length) ?_ ?_
 ·refine fun Φ hΦ=>hΦ _ _ _ _ _ _ _ _ _ _ _ _ _ _ _ _ _ _ _ _ _ _ _ _ _ _ _ _ _ _ _ _ _ _ _ _ _ _ _ (0) ([]) ?_
  exact ⟨by omega,rfl,Below.refl _ _⟩
 ·intro k1 a1 wr1 hI1 J1 K1 hJ1 hK1
  refine hI1 (fun a=>Code.wp _ _ _ a _) ?_
  clear hI1 a1
  intro s0 s1 s2 s3 s4 s5 s6 s7 s8 s9 s10 s11 s12 s13 s14 s15 s16 s17 s18 s19 s20 s21 s22 s23 s24 s25 s26 s27 s28 s29 s30 s31 s32 s33 s34 s35 s36 s37 s38 i last hrel
  show Code.wp _ _ _ _ _
  obtain ⟨h1,h2,hb⟩:=hrel
  by_cases hi : i < l.length
  ·obtain ⟨ad,off,rfl,hbl,hcell⟩:=mem_cells HRR.out hi
   obtain ⟨r0,r1⟩:=hcell _ hb
   have hi1 : (i : Int) < l.length:=by omega
   have hi0 : (0 : Int) ≤ i:=by omega
   have hi8 : (i : Int) < 8:=by have:=HL7.out; omega
   have hd : l.drop i = l[i] :: l.drop (i + 1):=List.drop_eq_getElem_cons hi
   have hlen:=HS.out _ (List.getElem_mem hi)
   rw [hd] at h2
   have HI:=Lib.hid (And.intro h1 hb)
   clear h1 hb hcell hd hbl
   generalize l[i] = x at *
   have H2:=Lib.hid (HK.out.trans h2)
   clear h2
   go_upto_region 7 with fail
   have F1:=Live.ha (Lib.hid (Live.start wr1)) #[.string ⟨x.1.toArray⟩,.int .i64 x.2] 165
   generalize wr1.alloc (.cells #[.string ⟨x.1.toArray⟩,.int .i64 x.2] 165) = W1 at F1 ⊢
   generalize wr1.heap.size = bm at F1 ⊢
   clear r0 r1
   have k0_0 : W1.cell? ⟨bm,0,none⟩ = some (.string ⟨x.1.toArray⟩):=F1.out.cell 0 0 rfl rfl; have k0_1 : W1.cell? ⟨bm,1,none⟩ = some (.int .i64 x.2):=F1.out.cell 0 1 rfl rfl
   by_cases g1 : 6 < x.1.length
   ·have g1' : (6 : Int) < x.1.length:=by omega
    have HNo : Hid (Pw.okM l = false):=Lib.hid (by rw [H2.out,Pw.risM,decide_eq_false (show ¬ x.1.length ≤ 6 by omega)]; simp)
    clear g1
    go_wp2_with fail
    exact HPf.out _ HNo.out (HI.out.2.nxt F1.out.b)
   have g1' : ((6 : Int) < x.1.length) = False:=by simp; omega
   have hq:=bl_leq x.1 last
   cases g2 : Op.bytesLess last x.1 with
   | false =>
    have HNo : Hid (Pw.okM l = false):=Lib.hid (by rw [H2.out,Pw.risM,g2]; simp)
    rw [g2,Bool.not_false] at hq
    clear g1 g2
    go_wp2_with fail
    exact HPf.out _ HNo.out (HI.out.2.nxt F1.out.b)
   | true =>
   rw [g2,Bool.not_true] at hq
   by_cases g3 : x.2 < 1
   ·have g3' : (x.2 < 1) = True:=by simp; omega
    have HNo : Hid (Pw.okM l = false):=Lib.hid (by rw [H2.out,Pw.risM,decide_eq_false (show ¬ 1 ≤ x.2 by omega)]; simp)
    clear g1 g2
    go_wp2_with fail
    exact HPf.out _ HNo.out (HI.out.2.nxt F1.out.b)
   have g3' : (x.2 < 1) = False:=by simp; omega
   by_cases g4 : 1000 < x.2
   ·have HNo : Hid (Pw.okM l = false):=Lib.hid (by rw [H2.out,Pw.risM,decide_eq_false (show ¬ x.2 ≤ 1000 by omega)]; simp)
    clear g1 g2
    go_wp2_with fail
    exact HPf.out _ HNo.out (HI.out.2.nxt F1.out.b)
   have g4' : (1000 < x.2) = False:=by simp; omega
   have HY : Hid (Pw.okM l = Pw.risM x.1 (l.drop (i + 1))):=Lib.hid (by
    rw [H2.out,Pw.risM,decide_eq_true (show x.1.length ≤ 6 by omega),g2,decide_eq_true (show 1 ≤ x.2 by omega),decide_eq_true (show x.2 ≤ 1000 by omega)]; rfl)
   clear g1 g2 g3 g4 H2
   go_wp2_with fail
   refine Handed.intro (l.length - (i + 1)) ?_ (hJ1 _ _ _ (fun Φ hΦ=>hΦ _ _ _ _ _ _ _ _ _ _ _ _ _ _ _ _ _ _ _ _ _ _ _ _ _ _ _ _ _ _ _ _ _ _ _ _ _ _ _ (i + 1) (x.1) ?_))
   ·have:=HI.out.1; omega
   exact ⟨by have:=HI.out.1; omega,HK.out.symm.trans HY.out,HI.out.2.nxt F1.out.b⟩
  ·have hi1 : ((i : Int) < l.length) = False:=by simp; omega
   have HY : Hid (Pw.okM l = true):=Lib.hid (by rw [HK.out,h2,List.drop_of_length_le (by omega),Pw.risM])
   have HI:=Lib.hid hb
   clear h1 h2 hb hi
   go_wp2_with fail
   exact HPt.out _ HY.out HI.out
def encMo (l : List Pw.Mem) : List UInt8:=if Pw.okM l then Pw.encM l else []
theorem flat_take (l : List Pw.Mem) (i : Nat) (hi : i < l.length) : ((l.take (i + 1)).map Pw.memB).flatten = ((l.take i).map Pw.memB).flatten ++ Pw.memB l[i]:=by
 rw [List.take_succ_eq_append_getElem hi,List.map_append,List.flatten_append,List.map_cons,List.map_nil,List.flatten_cons,List.flatten_nil,List.append_nil]
def MEncEnd (w : World) (l : List Pw.Mem) (e : Ending) (w' : World) : Prop:=e = .returned (.tuple #[.string ⟨(encMo l).toArray⟩,.int .i64 (codeM (Pw.okM l))]) ∧ Below w.heap.size w w'
set_option maxRecDepth 100000 in
set_option maxHeartbeats 1000000 in
theorem power_Encode (w : World) (l : List Pw.Mem) (hs : ∀ x ∈ l,x.1.length ≤ 9223372036854775807) (A : Option Addr) (c : Nat) (HR : Reads w w.heap.size 2 A l.length (mcells l)) :
  Calls Tryz.prog 84 #[.slice A l.length c] w (MEncEnd w l):=by
 have HCk:=Lib.hid (power_Check w l hs A c HR)
 cases hok : Pw.okM l with
 | false =>
  have HP : Hid (∀ w',Below w.heap.size w w' → MEncEnd w l (.returned (.tuple #[.string ⟨#[]⟩,.int .i64 50])) w'):=Lib.hid (fun w' h=>by
   unfold MEncEnd encMo
   rw [hok]; exact ⟨rfl,h⟩)
  generalize MEncEnd w l = P at HP ⊢
  rw [hok] at HCk
  simp only [codeM,Bool.false_eq_true,if_false] at HCk
  clear HR hs hok
  go_enter Tryz.func84,Tryz.ntmps84
  go_wp2_with fail
  refine HCk.out.mono ?_
  rintro q w1 ⟨rfl,hb⟩
  have HB:=Lib.hid hb
  clear hb
  go_wp2_with fail
  exact HP.out _ HB.out
 | true =>
  have hlen:=(Pw.okM_len hok).2
  have hall:=Pw.okM_all hok
  have HP : Hid (∀ s w',Pw.encM l = s → Below w.heap.size w w' → MEncEnd w l (.returned (.tuple #[.string ⟨s.toArray⟩,.int .i64 0])) w'):=Lib.hid (fun s w' e h=>by
   unfold MEncEnd encMo
   rw [hok,if_pos rfl,e]; exact ⟨rfl,h⟩)
  generalize MEncEnd w l = P at HP ⊢
  rw [hok] at HCk
  simp only [codeM,if_true] at HCk
  have HRR:=Lib.hid HR
  have HA:=Lib.hid hall
  have HL:=Lib.hid hlen
  have HNum:=Lib.hid (fun W=>code_Num l.length (by omega) W)
  clear HR hs hok hall
  go_enter Tryz.func84,Tryz.ntmps84
  go_wp2_with fail
  refine HCk.out.mono ?_
  rintro q w1 ⟨rfl,hb⟩
  have HB:=Lib.hid hb
  clear hb
  go_wp2_with fail
  refine (HNum.out _).mono ?_
  rintro q w2 ⟨rfl,hb⟩
  have HB2:=Lib.hid (HB.out.nxt hb)
  clear hb HB HCk HNum hlen
  obtain ⟨S0,hS0⟩ : ∃ S0,numW l.length = S0:=⟨_,rfl⟩
  have HS0:=Lib.hid hS0
  rw [hS0]
  clear hS0
  go_wp2_with fail
  refine wp_loop_ghost_k (fun k a wr => ∀ Φ : Act → Prop,(∀ (s0 s1 s2 s3 s4 s6 s7 s8 s9 s10 s11 s12 s13 s14 s15 s16 s17 s18 s19 s20 s21 s25 s26 s27 s28 s29 s30 s31 s32 s33 s34 s35 s36 s37 s38 s39 s40 s41 s42 : Value) (i : Nat) (S : List UInt8),(i + k = l.length ∧ S = numW l.length ++ ((l.take i).map Pw.memB).flatten ∧ S.length ≤ 9 + 24 * i ∧ Below w.heap.size w wr) → Φ { tmps:=#[s0,s1,s2,s3,s4,.string ⟨S.toArray⟩,s6,s7,s8,s9,s10,s11,s12,s13,s14,s15,s16,s17,s18,s19,s20,s21,.slice A l.length c,.int .i64 l.length,.int .i64 (i : Int),s25,s26,s27,s28,s29,s30,s31,s32,s33,s34,s35,s36,s37,s38,s39,s40,s41,s42],defers := [] }) → Φ a) (l.length) ?_ ?_
  ·refine fun Φ hΦ=>hΦ _ _ _ _ _ _ _ _ _ _ _ _ _ _ _ _ _ _ _ _ _ _ _ _ _ _ _ _ _ _ _ _ _ _ _ _ _ _ _ (0) (S0) ?_
   exact ⟨by omega,by rw [HS0.out]; simp,by rw [← HS0.out]; have:=numW_len l.length (by have:=HL.out; omega); omega,HB2.out⟩
  ·intro k1 a1 wr1 hI1 J1 K1 hJ1 hK1
   refine hI1 (fun a=>Code.wp _ _ _ a _) ?_
   clear hI1 a1
   intro s0 s1 s2 s3 s4 s5 s6 s7 s8 s9 s10 s11 s12 s13 s14 s15 s16 s17 s18 s19 s20 s21 s22 s23 s24 s25 s26 s27 s28 s29 s30 s31 s32 s33 s34 s35 s36 s37 s38 i S hrel
   show Code.wp _ _ _ _ _
   obtain ⟨h1,h2,h3,hb⟩:=hrel
   by_cases hi : i < l.length
   ·obtain ⟨ad,off,rfl,hbl,hcell⟩:=mem_cells HRR.out hi
    obtain ⟨r0,r1⟩:=hcell _ hb
    have hi1 : (i : Int) < l.length:=by omega
    have hi0 : (0 : Int) ≤ i:=by omega
    obtain ⟨a1,a2,a3,a4⟩:=HA.out _ (List.getElem_mem hi)
    have HI:=Lib.hid (And.intro h1 (And.intro hb h3))
    have HN:=Lib.hid (show S ++ Pw.memB l[i] = numW l.length ++ ((l.take (i + 1)).map Pw.memB).flatten by rw [flat_take l i hi,h2,List.append_assoc])
    have hi8 : i < 8:=by have:=HL.out; omega
    clear h1 hb hcell hbl h2
    generalize l[i] = x at *
    obtain ⟨nm,pw⟩:=x
    simp only at a1 a3 a4 r0 r1
    obtain ⟨n,rfl⟩:=Int.eq_ofNat_of_zero_le (show 0 ≤ pw by omega)
    have HNum:=Lib.hid (fun W=>code_Num n (by omega) W)
    have HTx:=Lib.hid (fun W=>code_Text nm (by omega) W)
    have HLl : Hid ((textW nm).length ≤ 15 ∧ (numW n).length ≤ 9 ∧ (Pw.memB (nm,(n : Int))).length ≤ 24):=Lib.hid ⟨by rw [textW,List.length_append]; have:=numW_len nm.length (by omega); omega,numW_len n (by omega),Pw.memB_len a1 a3 a4⟩
    have HM : Hid (Pw.memB (nm,(n : Int)) = textW nm ++ numW n):=Lib.hid rfl
    clear a1 a2 a3 a4
    go_upto_region 8 with fail
    have F1:=Live.ha (Lib.hid (Live.start wr1)) #[.string ⟨nm.toArray⟩,.int .i64 (n : Int)] 165
    generalize wr1.alloc (.cells #[.string ⟨nm.toArray⟩,.int .i64 (n : Int)] 165) = W1 at F1 ⊢
    generalize wr1.heap.size = bm at F1 ⊢
    clear r0 r1
    have k0_1 : W1.cell? ⟨bm,1,none⟩ = some (.int .i64 (n : Int)):=F1.out.cell 0 1 rfl rfl
    go_wp2_with fail
    refine (HNum.out _).mono ?_
    rintro q w3 ⟨rfl,hb⟩
    have F3:=Live.hb F1 hb
    clear hb F1 k0_1 HNum
    have k0_0 : w3.cell? ⟨bm,0,none⟩ = some (.string ⟨nm.toArray⟩):=F3.out.cell 0 0 rfl rfl
    go_wp2_with fail
    refine (HTx.out _).mono ?_
    rintro q w4 ⟨rfl,hb⟩
    have F4:=Live.hb F3 hb
    clear hb F3 k0_0 HTx
    obtain ⟨l1,l2,l3⟩:=HLl.out
    rw [HM.out] at HN l3
    clear HLl HM
    generalize textW nm = X at *
    generalize numW n = Y at *
    rw [List.length_append] at l3
    have m1 : X.length + Y.length ≤ 9223372036854775807:=by omega
    have m2 : S.length + (X.length + Y.length) ≤ 9223372036854775807:=by omega
    have m3 : S.length + (X ++ Y).length ≤ 9223372036854775807:=by rw [List.length_append]; omega
    have m4 : (S ++ (X ++ Y)).length ≤ 9 + 24 * (i + 1):=by rw [List.length_append,List.length_append]; omega
    have HM4:=Lib.hid m4
    clear m4 l1 l2 l3 h3
    go_wp2_with fail
    refine Handed.intro (l.length - (i + 1)) ?_ (hJ1 _ _ _ (fun Φ hΦ=>hΦ _ _ _ _ _ _ _ _ _ _ _ _ _ _ _ _ _ _ _ _ _ _ _ _ _ _ _ _ _ _ _ _ _ _ _ _ _ _ _ (i + 1) (S ++ (X ++ Y)) ?_))
    ·have:=HI.out.1; omega
    exact ⟨by have:=HI.out.1; omega,HN.out,HM4.out,HI.out.2.1.nxt F4.out.b⟩
   ·have hi1 : ((i : Int) < l.length) = False:=by simp; omega
    have HY : Hid (Pw.encM l = S):=Lib.hid (by rw [h2,List.take_of_length_le (by omega)]; rfl)
    have HI:=Lib.hid hb
    clear h1 h2 h3 hb hi
    go_wp2_with fail
    exact HP.out _ _ HY.out HI.out
set_option maxRecDepth 100000 in
theorem power_Digest (w : World) (l : List Pw.Mem) (hs : ∀ x ∈ l,x.1.length ≤ 9223372036854775807) (A : Option Addr) (c : Nat) (HR : Reads w w.heap.size 2 A l.length (mcells l)) (hT : Tbl w) :
  Calls Tryz.prog 38 #[.slice A l.length c] w (Ret w (.string ⟨(Pw.digM l).toArray⟩)):=by
 have HEn:=Lib.hid (power_Encode w l hs A c HR)
 unfold MEncEnd encMo at HEn
 cases hok : Pw.okM l with
 | false =>
  have HP : Hid (∀ w',Below w.heap.size w w' → Ret w (.string ⟨(Pw.digM l).toArray⟩) (.returned (.string ⟨#[]⟩)) w'):=Lib.hid (fun w' h=>by
   unfold Ret Pw.digM
   rw [hok]; exact ⟨rfl,h⟩)
  generalize Ret w (.string ⟨(Pw.digM l).toArray⟩) = P at HP ⊢
  rw [hok] at HEn
  simp only [codeM,Bool.false_eq_true,if_false] at HEn
  clear HR hs hok hT
  go_enter Tryz.func38,Tryz.ntmps38
  go_wp2_with fail
  refine HEn.out.mono ?_
  rintro q w1 ⟨rfl,hb⟩
  have HB:=Lib.hid hb
  clear hb
  go_wp2_with fail
  exact HP.out _ HB.out
 | true =>
  have HP : Hid (∀ w',Below w.heap.size w w' → Ret w (.string ⟨(Pw.digM l).toArray⟩) (.returned (.string ⟨(shaW (4 :: Pw.encM l)).toArray⟩)) w'):=Lib.hid (fun w' h=>by
   unfold Ret Pw.digM
   rw [hok,if_pos rfl]; exact ⟨rfl,h⟩)
  generalize Ret w (.string ⟨(Pw.digM l).toArray⟩) = P at HP ⊢
  have hel:=Pw.encM_len hok
  rw [hok] at HEn
  simp only [codeM,if_true] at HEn
  have HD:=Lib.hid (fun W (hW : Below w.heap.size w W)=>digest_Sum W 4 (by omega) (by omega) (Pw.encM l) (by omega) (hT.next hW))
  rw [show UInt8.ofNat 4 = 4 from rfl] at HD
  generalize shaW (4 :: Pw.encM l) = sm at *
  generalize Pw.encM l = en at *
  clear HR hs hok hT hel
  go_enter Tryz.func38,Tryz.ntmps38
  go_wp2_with fail
  refine HEn.out.mono ?_
  rintro q w1 ⟨rfl,hb⟩
  have HB:=Lib.hid hb
  clear hb
  go_wp2_with fail
  refine (HD.out _ HB.out).mono ?_
  rintro q w2 ⟨rfl,hb⟩
  have HB2:=Lib.hid (HB.out.nxt hb)
  clear hb
  go_wp2_with fail
  exact HP.out _ HB2.out
end Go.Proofs.YtnelhjfjkkdoaaaGreatDoor
