import Derived.Test.YtomnlhbioijfhaaDoorK19
import Derived.Test.YtomnlhbioijfhaaDoorK27
import Derived.Test.YtomnlhbioijfhaaDoorK20
set_option linter.unusedSimpArgs false
set_option linter.unusedVariables false
namespace Go.Proofs.YtomnlhbioijfhaaDoor
open Go.RowKit Go.Instr
attribute [local go_sem] ba_get ByteArray.mk_append_mk
theorem mem_run (w : World) (a b : Pw.Mem) : (Op.equalIn 10000 60 (.agg #[.string ⟨a.1.toArray⟩,.int .i64 a.2]) (.agg #[.string ⟨b.1.toArray⟩,.int .i64 b.2])).run Tryd.prog w = .ok (a == b) w:=by
 obtain ⟨a1,a2⟩:=a
 obtain ⟨b1,b2⟩:=b
 have u9:=Tryd.underlying9
 have a9:=Tryd.isAgg9
 have z9:=Tryd.sizeOf9
 have u3:=Tryd.underlying3
 have a3:=Tryd.isAgg3
 have z3:=Tryd.sizeOf3
 have hS : Tryd.prog.underlying 60 = some (.struct (Tryd.prog.fieldsOf 60)):=by kernel_rfl
 have hp : Tryd.prog.stoodInHeld 60 = false:=by kernel_rfl
 rw [show (10000 : Nat) = 9999 + 1 from rfl,run_equalIn_agg w 9999 60 _ _ hS hp]
 simp only [Program.fieldsOf,Tryd.underlying60]
 go_simp
 by_cases h1 : a1 = b1 <;> by_cases h2 : a2 = b2 <;> simp [h1,h2]
 all_goals (intro h; exact absurd h (by assumption))
theorem rc_run (w : World) (a b : Ex.Rc) : (Op.equalIn 10000 91 (.agg #[.int .i64 a.1,.string ⟨a.2.1.toArray⟩,.int .i64 a.2.2]) (.agg #[.int .i64 b.1,.string ⟨b.2.1.toArray⟩,.int .i64 b.2.2])).run Tryd.prog w = .ok (a == b) w:=by
 obtain ⟨a1,a2,aq⟩:=a
 obtain ⟨b1,b2,bq⟩:=b
 have u9:=Tryd.underlying9
 have a9:=Tryd.isAgg9
 have z9:=Tryd.sizeOf9
 have u3:=Tryd.underlying3
 have a3:=Tryd.isAgg3
 have z3:=Tryd.sizeOf3
 have u4:=Tryd.underlying35
 have a4:=Tryd.isAgg35
 have z4:=Tryd.sizeOf35
 have hS : Tryd.prog.underlying 91 = some (.struct (Tryd.prog.fieldsOf 91)):=by kernel_rfl
 have hp : Tryd.prog.stoodInHeld 91 = false:=by kernel_rfl
 rw [show (10000 : Nat) = 9999 + 1 from rfl,run_equalIn_agg w 9999 91 _ _ hS hp]
 simp only [Program.fieldsOf,Tryd.underlying91]
 go_simp
 by_cases h1 : a1 = b1 <;> by_cases h2 : a2 = b2 <;> by_cases h3 : aq = bq <;> simp [h1,h2,h3]
theorem rc_cells {w : World} {B : Nat} {A : Option Addr} {l : List Ex.Rc} (h : Reads w B 3 A l.length (rcs l)) {i : Nat} (hi : i < l.length) :
  ∃ ad off,A = some ⟨ad,off,none⟩ ∧ ad < B ∧ ∀ W,Below B w W → W.cell? ⟨ad,off + i * 3,none⟩ = some (.int .i64 l[i].1) ∧ W.cell? ⟨ad,off + i * 3 + 1,none⟩ = some (.string ⟨l[i].2.1.toArray⟩) ∧ W.cell? ⟨ad,off + i * 3 + 2,none⟩ = some (.int .i64 l[i].2.2):=by
 obtain ⟨ad,off,h1,h2,h3⟩:=flat_cells rcell_len (by decide) h hi
 exact ⟨ad,off,h1,h2,fun W hW=>⟨h3 W hW 0 _ rfl,h3 W hW 1 _ rfl,h3 W hW 2 _ rfl⟩⟩
set_option maxHeartbeats 1000000 in
theorem book_SameMembers (A B : Option Addr) (c d : Nat) (xs ys : List Pw.Mem) (w : World) (ha : Reads w w.heap.size 2 A xs.length (mcells xs)) (hb : Reads w w.heap.size 2 B ys.length (mcells ys)) (hn : xs.length ≤ 1048576) (hm : ys.length ≤ 1048576) :
  Calls Tryd.prog 22 #[.slice A xs.length c,.slice B ys.length d] w fun e w'=>e = .returned (.bool (decide (xs = ys))) ∧ Below w.heap.size w w':=by
 by_cases hnm : xs.length = ys.length
 ·have hq : ((xs.length : Int) == (ys.length : Int)) = true:=by rw [hnm]; simp
  go_enter Tryd.func22,Tryd.ntmps22
  go_wp2
  have HNM:=Lib.hid hnm
  clear hnm
  refine wp_loop_ghost_k (fun k a wr => ∀ Φ : Act → Prop,(∀ (s2 s3 s4 s7 s8 s9 s10 s11 s12 s13 s14 s15 s16 s17 s18 s19 s20 s21 s22 s23 s24 s25 s26 s27 s28 s29 s30 : Value) (i : Nat) (q : Bool),(i + k = xs.length ∧ (q = true ↔ xs.take i = ys.take i) ∧ (q = false → xs ≠ ys) ∧ Below w.heap.size w wr) → Φ { tmps:=#[.slice A xs.length c,.slice B ys.length d,s2,s3,s4,.bool q,.int .i64 i,s7,s8,s9,s10,s11,s12,s13,s14,s15,s16,s17,s18,s19,s20,s21,s22,s23,s24,s25,s26,s27,s28,s29,s30],defers := [] }) → Φ a) (xs.length) ?_ ?_
  ·refine fun Φ hΦ=>hΦ _ _ _ _ _ _ _ _ _ _ _ _ _ _ _ _ _ _ _ _ _ _ _ _ _ _ _ (0) (true) ?_
   exact ⟨by omega,by simp,by simp,Below.refl _ _⟩
  ·intro k1 a1 wr1 hI1 J1 K1 hJ1 hK1
   refine hI1 (fun a=>Code.wp _ _ _ a _) ?_
   clear hI1 a1
   intro s0 s1 s2 s3 s4 s5 s6 s7 s8 s9 s10 s11 s12 s13 s14 s15 s16 s17 s18 s19 s20 s21 s22 s23 s24 s25 s26 i q hrel
   show Code.wp _ _ _ _ _
   obtain ⟨h1,h2,h3,hw⟩:=hrel
   cases q with
   | false =>
    have h3' : xs ≠ ys:=by simpa using h3
    have H3:=Lib.hid h3'
    clear h3'
    clear h2 h3
    go_wp2
    go_ret
    exact ⟨ret_bool (by simpa using H3.out),hw⟩
   | true =>
    have H2:=Lib.hid h2
    clear h2 h3
    by_cases hi : i < xs.length
    ·have hyi : i < ys.length:=by have:=HNM.out; omega
     obtain ⟨b1,o1,rfl,hl1,hc1⟩:=mem_cells ha hi
     obtain ⟨b2,o2,rfl,hl2,hc2⟩:=mem_cells hb hyi
     obtain ⟨g1,g1b⟩:=hc1 _ hw; obtain ⟨g2,g2b⟩:=hc2 _ hw
     have EQ:=fun w=>mem_run w (xs[i]'hi) (ys[i]'hyi)
     have hi1 : (i : Int) < xs.length:=by omega
     have hi2 : (i : Int) < ys.length:=by omega
     clear hc1 hc2
     go_wp2
     go_region
     go_wp2
     refine Handed.intro (xs.length - (i + 1)) ?_ (hJ1 _ _ _ (fun Φ hΦ=>hΦ _ _ _ _ _ _ _ _ _ _ _ _ _ _ _ _ _ _ _ _ _ _ _ _ _ _ _ (i + 1) (xs[i] == ys[i]'hyi) ?_))
     ·omega
     ·have hx:=take_eq_succ' (xs:=xs) (ys:=ys) (i:=i) hi hyi (by simpa using H2.out)
      refine ⟨by omega, ?_, ?_,below_drewN hw _⟩
      ·rw [hx]; simp
      ·intro hq e
       subst e
       simp at hq
    ·have e : i = xs.length:=by omega
     have hE : xs.take i = ys.take i:=by simpa using H2.out
     rw [List.take_of_length_le (by omega),List.take_of_length_le (by have:=HNM.out; omega)] at hE
     have HE:=Lib.hid hE
     have hi1 : ((i : Int) < xs.length) = False:=by simp; omega
     clear hE
     go_wp2
     go_ret
     exact ⟨ret_bool (by rw [HE.out,decide_eq_true rfl]),hw⟩
 ·have hq : ((xs.length : Int) == (ys.length : Int)) = false:=by rw [beq_eq_false_iff_ne]; omega
  go_enter Tryd.func22,Tryd.ntmps22
  go_wp2
  refine wp_loop_rounds 1 ?_
  rw [rounds_succ]
  go_wp2
  go_ret
  exact ⟨ret_bool (by symm; rw [decide_eq_false_iff_not]; intro e; subst e; omega),Below.refl _ _⟩
set_option maxHeartbeats 1000000 in
theorem book_SameReceipts (A B : Option Addr) (c d : Nat) (xs ys : List Ex.Rc) (w : World) (ha : Reads w w.heap.size 3 A xs.length (rcs xs)) (hb : Reads w w.heap.size 3 B ys.length (rcs ys)) (hn : xs.length ≤ 1048576) (hm : ys.length ≤ 1048576) :
  Calls Tryd.prog 21 #[.slice A xs.length c,.slice B ys.length d] w fun e w'=>e = .returned (.bool (decide (xs = ys))) ∧ Below w.heap.size w w':=by
 by_cases hnm : xs.length = ys.length
 ·have hq : ((xs.length : Int) == (ys.length : Int)) = true:=by rw [hnm]; simp
  go_enter Tryd.func21,Tryd.ntmps21
  go_wp2
  have HNM:=Lib.hid hnm
  clear hnm
  refine wp_loop_ghost_k (fun k a wr => ∀ Φ : Act → Prop,(∀ (s2 s3 s4 s7 s8 s9 s10 s11 s12 s13 s14 s15 s16 s17 s18 s19 s20 s21 s22 s23 s24 s25 s26 s27 s28 s29 s30 : Value) (i : Nat) (q : Bool),(i + k = xs.length ∧ (q = true ↔ xs.take i = ys.take i) ∧ (q = false → xs ≠ ys) ∧ Below w.heap.size w wr) → Φ { tmps:=#[.slice A xs.length c,.slice B ys.length d,s2,s3,s4,.bool q,.int .i64 i,s7,s8,s9,s10,s11,s12,s13,s14,s15,s16,s17,s18,s19,s20,s21,s22,s23,s24,s25,s26,s27,s28,s29,s30],defers := [] }) → Φ a) (xs.length) ?_ ?_
  ·refine fun Φ hΦ=>hΦ _ _ _ _ _ _ _ _ _ _ _ _ _ _ _ _ _ _ _ _ _ _ _ _ _ _ _ (0) (true) ?_
   exact ⟨by omega,by simp,by simp,Below.refl _ _⟩
  ·intro k1 a1 wr1 hI1 J1 K1 hJ1 hK1
   refine hI1 (fun a=>Code.wp _ _ _ a _) ?_
   clear hI1 a1
   intro s0 s1 s2 s3 s4 s5 s6 s7 s8 s9 s10 s11 s12 s13 s14 s15 s16 s17 s18 s19 s20 s21 s22 s23 s24 s25 s26 i q hrel
   show Code.wp _ _ _ _ _
   obtain ⟨h1,h2,h3,hw⟩:=hrel
   cases q with
   | false =>
    have h3' : xs ≠ ys:=by simpa using h3
    have H3:=Lib.hid h3'
    clear h3'
    clear h2 h3
    go_wp2
    go_ret
    exact ⟨ret_bool (by simpa using H3.out),hw⟩
   | true =>
    have H2:=Lib.hid h2
    clear h2 h3
    by_cases hi : i < xs.length
    ·have hyi : i < ys.length:=by have:=HNM.out; omega
     obtain ⟨b1,o1,rfl,hl1,hc1⟩:=rc_cells ha hi
     obtain ⟨b2,o2,rfl,hl2,hc2⟩:=rc_cells hb hyi
     obtain ⟨g1,g1b,g1c⟩:=hc1 _ hw; obtain ⟨g2,g2b,g2c⟩:=hc2 _ hw
     have EQ:=fun w=>rc_run w (xs[i]'hi) (ys[i]'hyi)
     have hi1 : (i : Int) < xs.length:=by omega
     have hi2 : (i : Int) < ys.length:=by omega
     clear hc1 hc2
     go_wp2
     go_region
     go_wp2
     refine Handed.intro (xs.length - (i + 1)) ?_ (hJ1 _ _ _ (fun Φ hΦ=>hΦ _ _ _ _ _ _ _ _ _ _ _ _ _ _ _ _ _ _ _ _ _ _ _ _ _ _ _ (i + 1) (xs[i] == ys[i]'hyi) ?_))
     ·omega
     ·have hx:=take_eq_succ' (xs:=xs) (ys:=ys) (i:=i) hi hyi (by simpa using H2.out)
      refine ⟨by omega, ?_, ?_,below_drewN hw _⟩
      ·rw [hx]; simp
      ·intro hq e
       subst e
       simp at hq
    ·have e : i = xs.length:=by omega
     have hE : xs.take i = ys.take i:=by simpa using H2.out
     rw [List.take_of_length_le (by omega),List.take_of_length_le (by have:=HNM.out; omega)] at hE
     have HE:=Lib.hid hE
     have hi1 : ((i : Int) < xs.length) = False:=by simp; omega
     clear hE
     go_wp2
     go_ret
     exact ⟨ret_bool (by rw [HE.out,decide_eq_true rfl]),hw⟩
 ·have hq : ((xs.length : Int) == (ys.length : Int)) = false:=by rw [beq_eq_false_iff_ne]; omega
  go_enter Tryd.func21,Tryd.ntmps21
  go_wp2
  refine wp_loop_rounds 1 ?_
  rw [rounds_succ]
  go_wp2
  go_ret
  exact ⟨ret_bool (by symm; rw [decide_eq_false_iff_not]; intro e; subst e; omega),Below.refl _ _⟩
end Go.Proofs.YtomnlhbioijfhaaDoor
namespace Go.Proofs.YtomnlhbioijfhaaDoor
namespace Ex
open Pw Trie
theorem allGo_free : ∀ (l : List Tx) (t : T) (M N : List Mem),(allGo t l M).1 = (allGo t l N).1 ∧ (allGo t l M).2.1 = (allGo t l N).2.1
 | [],_,_,_=>⟨rfl,rfl⟩
 | x :: r,t,M,N=>by
  obtain ⟨h1,h2⟩:=allGo_free r (doW t x).1 (if (doW t x).2 = 0 ∧ x.kind = 4 then x.mem else M) (if (doW t x).2 = 0 ∧ x.kind = 4 then x.mem else N)
  refine ⟨h1, ?_⟩
  simp only [allGo]
  rw [h2]
def lastM (M N : List Mem) : List Mem:=if N.isEmpty then M else N
theorem allGo_last : ∀ (l : List Tx) (t : T) (M : List Mem),(allGo t l M).2.2 = lastM M (allGo t l []).2.2
 | [],_,_=>by simp [allGo,lastM]
 | x :: r,t,M=>by
  show (allGo (doW t x).1 r (if (doW t x).2 = 0 ∧ x.kind = 4 then x.mem else M)).2.2 = lastM M (allGo (doW t x).1 r (if (doW t x).2 = 0 ∧ x.kind = 4 then x.mem else [])).2.2
  by_cases hc : (doW t x).2 = 0 ∧ x.kind = 4
  ·rw [if_pos hc,if_pos hc]
   have hm : x.mem ≠ []:=by
    obtain ⟨hx,_⟩:=doW_done hc.1
    rcases (fineX_spec hx).2.2.2 with ⟨k,_⟩ | ⟨k,_⟩ | ⟨k,_⟩ | ⟨_,_,_,_,_,hm⟩
    ·omega
    ·omega
    ·omega
    ·intro e; have:=(okM_len hm).1; rw [e] at this; simp at this
   have hn : (allGo (doW t x).1 r x.mem).2.2 ≠ []:=by
    rw [allGo_last r]
    unfold lastM
    split
    ·exact hm
    ·rename_i h; intro e; rw [e] at h; exact h rfl
   have hb : (allGo (doW t x).1 r x.mem).2.2.isEmpty = false:=by cases h : (allGo (doW t x).1 r x.mem).2.2 <;> simp_all
   unfold lastM
   rw [hb]
   rfl
  ·rw [if_neg hc,if_neg hc]
   exact allGo_last r _ M
theorem allGo_parts (l1 l2 : List Tx) (t : T) : (allGo t (l1 ++ l2) []).1 = (allGo (allGo t l1 []).1 l2 []).1 ∧ (allGo t (l1 ++ l2) []).2.1 = (allGo t l1 []).2.1 ++ (allGo (allGo t l1 []).1 l2 []).2.1 ∧
  (allGo t (l1 ++ l2) []).2.2 = lastM (allGo t l1 []).2.2 (allGo (allGo t l1 []).1 l2 []).2.2:=by
 rw [allGo_append]
 refine ⟨(allGo_free l2 _ _ _).1, ?_,allGo_last l2 _ _⟩
 simp only
 rw [(allGo_free l2 _ (allGo t l1 []).2.2 []).2]
end Ex
end Go.Proofs.YtomnlhbioijfhaaDoor
