import Derived.Lib.Hide
import GoSem.Op.String
import Derived.Sort.Walk0
import Derived.Test.YtomnlhbioijfhaaGreatDoorJ01
import Derived.Test.YtomnlhbioijfhaaGreatDoorJ05
import Derived.Deep.MidRow
set_option linter.unusedSimpArgs false
set_option linter.unusedVariables false
namespace Go.Proofs.YtomnlhbioijfhaaGreatDoor
namespace Nib
def of (l : List UInt8) : List UInt8:=l.flatMap fun b => [b / 16,b % 16]
theorem of_snoc (l : List UInt8) (b : UInt8) : of (l ++ [b]) = of l ++ [b / 16,b % 16]:=by simp [of]
theorem of_length (l : List UInt8) : (of l).length = 2 * l.length:=by
 induction l with
 | nil=>rfl
 | cons b l ih =>
  have : of (b :: l) = [b / 16,b % 16] ++ of l:=by simp [of]
  rw [this,List.length_append,ih]; simp; omega
def fit (l : List UInt8) : Bool:=l.all fun b=>decide (b ≤ 15)
def joined : List UInt8 → List UInt8
 | a :: b :: l=>(a * 16 + b) :: joined l
 | _ => []
def common : List UInt8 → List UInt8 → Nat
 | a :: x,b :: y=>if a = b then common x y + 1 else 0
 | _,_=>0
theorem common_le (x : List UInt8) : ∀ y,common x y ≤ x.length ∧ common x y ≤ y.length:=by
 induction x with
 | nil=>intro y; simp [common]
 | cons a x ih =>
  intro y
  cases y with
  | nil=>simp [common]
  | cons b y =>
   unfold common
   split
   ·have:=ih y; simp; omega
   ·simp
theorem common_take (x : List UInt8) : ∀ (y : List UInt8) (n : Nat),n ≤ common x y ↔ (n ≤ x.length ∧ n ≤ y.length ∧ x.take n = y.take n):=by
 induction x with
 | nil =>
  intro y n
  cases n with
  | zero=>simp
  | succ n=>simp [common]
 | cons a x ih =>
  intro y n
  cases y with
  | nil =>
   cases n with
   | zero=>simp
   | succ n=>simp [common]
  | cons b y =>
   cases n with
   | zero=>simp
   | succ n =>
    unfold common
    by_cases hab : a = b
    ·subst hab
     have:=ih y n
     simp only [if_pos,List.length_cons,List.take_succ_cons,List.cons.injEq,true_and,Nat.add_le_add_iff_right]
     exact this
    ·simp [hab]
theorem common_step {x y : List UInt8} {n : Nat} (h : n ≤ common x y) (hx : n < x.length) (hy : n < y.length) : (n + 1 ≤ common x y) ↔ x[n] = y[n]:=by
 rw [common_take] at h ⊢
 rw [List.take_succ_eq_append_getElem hx,List.take_succ_eq_append_getElem hy,h.2.2]
 constructor
 ·intro e; simpa using List.append_cancel_left e.2.2
 ·intro e; exact ⟨hx,hy,by rw [e]⟩
theorem joined_length (l : List UInt8) : (joined l).length = l.length / 2:=by
 fun_induction joined l with
 | case1 a b l ih=>simp [ih]; omega
 | case2 l h =>
  match l,h with
  | [],_=>rfl
  | [a],_=>simp
  | a :: b :: l,h=>exact absurd rfl (h a b l)
theorem joined_cons (a b : UInt8) (l : List UInt8) : joined (a :: b :: l) = (a * 16 + b) :: joined l:=rfl
theorem joined_take (l : List UInt8) : ∀ i,(h : 2 * i + 1 < l.length) → joined (l.take (2 * (i + 1))) = joined (l.take (2 * i)) ++ [l[2 * i] * 16 + l[2 * i + 1]]:=by
 fun_induction joined l with
 | case1 a b l ih =>
  intro i h
  cases i with
  | zero=>simp [joined]
  | succ i =>
   have:=ih i (by simp at h; omega)
   have e1 : 2 * (i + 1 + 1) = 2 * (i + 1) + 2:=by omega
   have e2 : 2 * (i + 1) = 2 * i + 2:=by omega
   rw [e1,List.take_succ_cons,List.take_succ_cons,joined_cons,this]
   simp only [e2,List.take_succ_cons,joined_cons,List.cons_append]
   simp [show 2 * i + 2 + 1 = (2 * i + 1) + 1 + 1 from by omega]
 | case2 l h =>
  intro i hl
  match l,h with
  | [],_=>simp at hl
  | [a],_=>simp at hl
  | a :: b :: l,h=>exact absurd rfl (h a b l)
theorem joined_half (l : List UInt8) : joined (l.take (2 * (l.length / 2))) = joined l:=by
 fun_induction joined l with
 | case1 a b l ih =>
  have e : 2 * ((a :: b :: l).length / 2) = 2 * (l.length / 2) + 1 + 1:=by simp; omega
  rw [e,List.take_succ_cons,List.take_succ_cons,joined_cons,ih]
 | case2 l h =>
  match l,h with
  | [],_=>rfl
  | [a],_=>simp [joined]
  | a :: b :: l,h=>exact absurd rfl (h a b l)
theorem fit_take (l : List UInt8) (i : Nat) (h : i < l.length) : fit (l.take (i + 1)) = (fit (l.take i) && decide (l[i] ≤ 15)):=by
 unfold fit
 rw [List.take_succ_eq_append_getElem h,List.all_append]
 simp
theorem fit_false {l : List UInt8} {i : Nat} (h : i < l.length) (hb : ¬ l[i] ≤ 15) : fit l = false:=by
 unfold fit
 rw [List.all_eq_false]
 exact ⟨l[i],List.getElem_mem h,by simpa using hb⟩
def key (l : List UInt8) : List UInt8 × Nat:=if fit l then (if l.length % 2 = 1 then ([],4) else (joined l,0)) else ([],3)
def packed (l : List UInt8) (leaf : Bool) : List UInt8 :=
 match l,l.length % 2 with
 | a :: r,1=>(if leaf then 48 + a else 16 + a) :: joined r
 | _,_=>(if leaf then 32 else 0) :: joined l
def pack (l : List UInt8) (leaf : Bool) : List UInt8 × Nat:=if fit l then (packed l leaf,0) else ([],3)
theorem packed_odd {a : UInt8} {r : List UInt8} {leaf : Bool} (h : (a :: r).length % 2 = 1) : packed (a :: r) leaf = (if leaf then 48 + a else 16 + a) :: joined r:=by
 unfold packed; rw [h]; rfl
theorem packed_even {l : List UInt8} {leaf : Bool} (h : l.length % 2 = 0) : packed l leaf = (if leaf then 32 else 0) :: joined l:=by
 unfold packed; rw [h]; cases l <;> rfl
theorem fit_of (l : List UInt8) : fit (of l) = true:=by
 unfold fit of
 rw [List.all_eq_true]
 intro x hx
 simp only [List.mem_flatMap,List.mem_cons,List.not_mem_nil,or_false] at hx
 obtain ⟨b,_,rfl | rfl⟩:=hx
 ·have:=b.toNat_lt
  simp [UInt8.le_iff_toNat_le]; omega
 ·simp [UInt8.le_iff_toNat_le]; omega
theorem half_back (b : UInt8) : b / 16 * 16 + b % 16 = b:=by
 apply UInt8.toNat_inj.1
 have:=b.toNat_lt
 simp [UInt8.toNat_add,UInt8.toNat_mul]
 omega
theorem joined_of (l : List UInt8) : joined (of l) = l:=by
 induction l with
 | nil=>rfl
 | cons b l ih =>
  have e : of (b :: l) = b / 16 :: b % 16 :: of l:=by simp [of]
  rw [e,joined_cons,ih,half_back]
theorem pair_back (a b : UInt8) (ha : a ≤ 15) (hb : b ≤ 15) : (a * 16 + b) / 16 = a ∧ (a * 16 + b) % 16 = b:=by
 rw [UInt8.le_iff_toNat_le] at ha hb
 simp at ha hb
 constructor <;> (apply UInt8.toNat_inj.1; simp [UInt8.toNat_add,UInt8.toNat_mul]; omega)
theorem of_joined (l : List UInt8) (hf : fit l = true) (he : l.length % 2 = 0) : of (joined l) = l:=by
 fun_induction joined l with
 | case1 a b l ih =>
  unfold fit at hf
  simp only [List.all_cons,Bool.and_eq_true,decide_eq_true_eq] at hf
  obtain ⟨h1,h2⟩:=pair_back a b hf.1 hf.2.1
  have e : of ((a * 16 + b) :: joined l) = (a * 16 + b) / 16 :: (a * 16 + b) % 16 :: of (joined l):=by simp [of]
  rw [e,h1,h2,ih (by unfold fit; exact hf.2.2) (by simp at he; omega)]
 | case2 l h =>
  match l,h with
  | [],_=>rfl
  | [a],_=>simp at he
  | a :: b :: l,h=>exact absurd rfl (h a b l)
theorem packed_length (l : List UInt8) (leaf : Bool) : (packed l leaf).length = l.length / 2 + 1:=by
 by_cases h : l.length % 2 = 1
 ·cases l with
  | nil=>simp at h
  | cons a r =>
   rw [packed_odd h,List.length_cons,joined_length]
   simp at h ⊢; omega
 ·rw [packed_even (by omega),List.length_cons,joined_length]
theorem of_cons (b : UInt8) (l : List UInt8) : of (b :: l) = b / 16 :: b % 16 :: of l:=by simp [of]
theorem of_inj {a b : List UInt8} (h : of a = of b) : a = b:=by
 have:=congrArg joined h
 rwa [joined_of,joined_of] at this
theorem common_symm (a : List UInt8) : ∀ b,common a b = common b a:=by
 induction a with
 | nil=>intro b; cases b <;> simp [common]
 | cons x a ih =>
  intro b
  cases b with
  | nil=>simp [common]
  | cons y b =>
   unfold common
   by_cases h : x = y
   ·subst h; simp [ih b]
   ·simp [h,Ne.symm h]
theorem blt_of (a : List UInt8) : ∀ b,Op.bytesLess (of a) (of b) = Op.bytesLess a b:=by
 induction a with
 | nil =>
  intro b
  cases b with
  | nil=>rfl
  | cons y b=>simp [of,Op.bytesLess]
 | cons x a ih =>
  intro b
  cases b with
  | nil=>simp [of,Op.bytesLess]
  | cons y b =>
   rw [of_cons,of_cons]
   simp only [Op.bytesLess,ih b]
   by_cases h : x = y
   ·subst h; simp [UInt8.lt_irrefl]
   ·have hx:=x.toNat_lt
    have hy:=y.toNat_lt
    have hne : x.toNat ≠ y.toNat:=fun e=>h (UInt8.toNat_inj.1 e)
    rw [Bool.eq_iff_iff]
    simp only [Bool.or_eq_true,Bool.and_eq_true,decide_eq_true_eq,beq_iff_eq,UInt8.lt_iff_toNat_lt,← UInt8.toNat_inj,UInt8.toNat_div,UInt8.toNat_mod]
    simp only [show (16 : UInt8).toNat = 16 from rfl]
    constructor
    ·rintro (h1 | ⟨h1,h2 | ⟨h2,_⟩⟩)
     ·left; omega
     ·left; omega
     ·exfalso; omega
    ·rintro (h1 | ⟨h1,_⟩)
     ·rcases Nat.lt_or_ge (x.toNat / 16) (y.toNat / 16) with h2 | h2
      ·exact .inl h2
      ·exact .inr ⟨by omega,.inl (by omega)⟩
     ·exact absurd h1 hne
theorem blt_irrefl (x : List UInt8) : Op.bytesLess x x = false:=by
 induction x with
 | nil=>rfl
 | cons a x ih=>simp [Op.bytesLess,UInt8.lt_irrefl,ih]
end Nib
end Go.Proofs.YtomnlhbioijfhaaGreatDoor
namespace Go.Proofs.YtomnlhbioijfhaaGreatDoor
open Go.RowKit
attribute [local go_sem] ba_get ByteArray.mk_append_mk
set_option maxRecDepth 100000 in
set_option maxHeartbeats 400000 in
theorem nib_Of (s : List UInt8) (w : World) (hs : s.length ≤ 1048576) :
  Calls Tryz.prog 36 #[.string ⟨s.toArray⟩] w fun e w'=>e = .returned (.string ⟨(Nib.of s).toArray⟩) ∧ Below w.heap.size w w':=by
 go_enter Tryz.func36,Tryz.ntmps36
 obtain ⟨i0,hi0,hz0,hz1,hz2⟩:=info_parts info_byte
 go_wp2_with (at_make; refine wpList_make_own _ rfl _ _ 140 rfl w.heap.size 5 i0 _ 1 Tryz.underlying140 hi0 hz0 hz1 .i64 .i64 _ (2 * s.length) rfl rfl (by omega) (by rw [hz2]; omega) (by simp only [maxLen]; omega) (Nat.le_refl _) ?_; intro w1 hown1 hg1)
 have hb1 : Below w.heap.size w w1:=(Below.refl _ _).grown hg1 (Nat.le_refl _) (by simp)
 refine wp_loop_ghost_k (fun k a wr => ∀ Φ : Act → Prop,(∀ (s1 s2 s4 s5 s6 s7 s8 s9 s12 s13 s14 s15 s16 s17 s18 s19 s20 s21 s22 s23 s24 s25 s26 s27 : Value) (i : Nat) (v : Value) (t : List UInt8),(i + k = s.length ∧ t.length = 2 * i ∧ t = Nib.of (s.take i) ∧ wr.ownsRow w.heap.size 5 1 v (2 * i) (bvals t) ∧ Below w.heap.size w wr) → Φ { tmps:=#[.string ⟨s.toArray⟩,s1,s2,v,s4,s5,s6,s7,s8,s9,.int .i64 s.length,.int .i64 i,s12,s13,s14,s15,s16,s17,s18,s19,s20,s21,s22,s23,s24,s25,s26,s27],defers := [] }) → Φ a) (s.length) ?_ ?_
 ·refine fun Φ hΦ=>hΦ _ _ _ _ _ _ _ _ _ _ _ _ _ _ _ _ _ _ _ _ _ _ _ _ (0) (_) ([]) ?_
  exact ⟨by omega,rfl,rfl,hown1,hb1⟩
 ·intro k1 a1 wr1 hI1 J1 K1 hJ1 hK1
  refine hI1 (fun a=>Code.wp _ _ _ a _) ?_
  clear hI1 a1
  intro s0 s1 s2 s3 s4 s5 s6 s7 s8 s9 s10 s11 s12 s13 s14 s15 s16 s17 s18 s19 s20 s21 s22 s23 i v t hrel
  show Code.wp _ _ _ _ _
  obtain ⟨h1,h2,h3,hown,hb⟩:=hrel
  have H3:=Lib.hid h3
  clear h3
  by_cases hi : i < s.length
  ·have hlt:=s[i].toNat_lt
   have hq : IntKind.u8.wrap ((s[i].toNat : Int) / 16) = (s[i].toNat : Int) / 16:=IntWalk.u8_in _ (by omega)
   have HE : Hid (t ++ [s[i] / 16,s[i] % 16] = Nib.of (s.take (i + 1))):=Lib.hid (by
    rw [List.take_succ_eq_append_getElem hi,Nib.of_snoc,H3.out])
   have hand:=u8_and15 s[i]
   clear H3
   go_wp2
   go_region_law (refine step_append_new wr1 5 [.int .u8 ((s[i].toNat : Int) / 16),.int .u8 ((s[i].toNat : Int) % 16)] rfl _ _ 140 rfl w.heap.size 1 1 _ info_byte Tryz.underlying140 rfl (by decide) v _ _ rfl hown 2 2 rfl rfl (by simp [Value.oneCell']) (by simp only [maxLen]; omega) (by omega) w.heap.size w hb (Nat.le_refl _) hb.size ?_; intro v1 w1 hown1 hb1 _ _ _)
   all_goals go_wp2
   all_goals (refine Handed.intro (s.length - (i + 1)) ?_ (hJ1 _ _ _ (fun Φ hΦ=>hΦ _ _ _ _ _ _ _ _ _ _ _ _ _ _ _ _ _ _ _ _ _ _ _ _ (i + 1) (v1) (t ++ [s[i] / 16,s[i] % 16]) ?_)))
   any_goals omega
   all_goals exact ⟨by omega,by simp; omega,HE.out,by simpa [bvals,UInt8.toNat_div,UInt8.toNat_mod,Nat.mul_add] using hown1,hb1⟩
  ·obtain ⟨A,c,rfl,hr, -, -⟩:=own_form hown
   have hconv:=conv_reads _ _ _ _ c t hr
   have E2 : Hid (t = Nib.of s):=Lib.hid (by rw [H3.out,List.take_of_length_le (by omega)])
   clear H3
   go_wp2
   go_ret
   exact ⟨ret_string (by rw [E2.out]),hb⟩
set_option maxRecDepth 100000 in
set_option maxHeartbeats 400000 in
theorem nib_Fit (s : List UInt8) (w : World) (hs : s.length ≤ 1048576) :
  Calls Tryz.prog 99 #[.string ⟨s.toArray⟩] w fun e w'=>e = .returned (.bool (Nib.fit s)) ∧ w = w':=by
 go_enter Tryz.func99,Tryz.ntmps99
 go_wp2
 refine wp_loop_ghost_k (fun k a wr => ∀ Φ : Act → Prop,(∀ (s1 s2 s3 s4 s7 s8 s9 s10 s11 s12 s13 : Value) (i : Nat),(i + k = s.length ∧ Nib.fit (s.take i) = true ∧ wr = w) → Φ { tmps:=#[.string ⟨s.toArray⟩,s1,s2,s3,s4,.int .i64 s.length,.int .i64 i,s7,s8,s9,s10,s11,s12,s13],defers := [] }) → Φ a) (s.length) ?_ ?_
 ·refine fun Φ hΦ=>hΦ _ _ _ _ _ _ _ _ _ _ _ (0) ?_
  exact ⟨by omega,rfl,rfl⟩
 ·intro k1 a1 wr1 hI1 J1 K1 hJ1 hK1
  refine hI1 (fun a=>Code.wp _ _ _ a _) ?_
  clear hI1 a1
  intro s0 s1 s2 s3 s4 s5 s6 s7 s8 s9 s10 i hrel
  show Code.wp _ _ _ _ _
  obtain ⟨h1,h2,rfl⟩:=hrel
  have H2:=Lib.hid h2
  clear h2
  by_cases hi : i < s.length
  ·have hlt:=s[i].toNat_lt
   by_cases hc : s[i] ≤ 15
   ·have hq : (s[i].toNat : Int) ≤ 15:=by rw [UInt8.le_iff_toNat_le] at hc; simp at hc; omega
    have HE : Hid (Nib.fit (s.take (i + 1)) = true):=Lib.hid (by rw [Nib.fit_take _ _ hi,H2.out]; simpa using hc)
    clear hc H2
    go_wp2
    refine Handed.intro (s.length - (i + 1)) ?_ (hJ1 _ _ _ (fun Φ hΦ=>hΦ _ _ _ _ _ _ _ _ _ _ _ (i + 1) ?_))
    ·omega
    ·exact ⟨by omega,HE.out,rfl⟩
   ·have hq : 15 < (s[i].toNat : Int):=by rw [UInt8.le_iff_toNat_le] at hc; simp at hc; omega
    have HE : Hid (Nib.fit s = false):=Lib.hid (Nib.fit_false hi hc)
    clear hc H2
    go_wp2
    go_ret
    exact ⟨by rw [HE.out]; rfl,rfl⟩
  ·have HE : Hid (Nib.fit s = true):=Lib.hid (by have:=H2.out; rwa [List.take_of_length_le (by omega)] at this)
   clear H2
   go_wp2
   go_ret
   exact ⟨by rw [HE.out]; rfl,rfl⟩
set_option maxRecDepth 100000 in
set_option maxHeartbeats 400000 in
theorem nib_Common (x y : List UInt8) (w : World) (hx : x.length ≤ 4194304) (hy : y.length ≤ 4194304) :
  Calls Tryz.prog 126 #[.string ⟨x.toArray⟩,.string ⟨y.toArray⟩] w fun e w'=>e = .returned (.int .i64 (Nib.common x y)) ∧ Below w.heap.size w w':=by
 go_enter Tryz.func126,Tryz.ntmps126
 go_wp2
 refine wp_loop_ghost_k (fun k a wr => ∀ Φ : Act → Prop,(∀ (s2 s3 s4 s6 s7 s8 s9 s10 s11 s12 s13 s14 s15 s16 s17 s18 s19 s20 s21 s22 s23 s24 s25 s26 s27 : Value) (i : Nat),(i + k = x.length ∧ i ≤ Nib.common x y ∧ Below w.heap.size w wr) → Φ { tmps:=#[.string ⟨x.toArray⟩,.string ⟨y.toArray⟩,s2,s3,s4,.int .i64 i,s6,s7,s8,s9,s10,s11,s12,s13,s14,s15,s16,s17,s18,s19,s20,s21,s22,s23,s24,s25,s26,s27],defers := [] }) → Φ a) (x.length) ?_ ?_
 ·refine fun Φ hΦ=>hΦ _ _ _ _ _ _ _ _ _ _ _ _ _ _ _ _ _ _ _ _ _ _ _ _ _ (0) ?_
  exact ⟨by omega,by omega,Below.refl _ _⟩
 ·intro k1 a1 wr1 hI1 J1 K1 hJ1 hK1
  refine hI1 (fun a=>Code.wp _ _ _ a _) ?_
  clear hI1 a1
  intro s0 s1 s2 s3 s4 s5 s6 s7 s8 s9 s10 s11 s12 s13 s14 s15 s16 s17 s18 s19 s20 s21 s22 s23 s24 i hrel
  show Code.wp _ _ _ _ _
  obtain ⟨h1,h2,hb⟩:=hrel
  have hcl:=Nib.common_le x y
  have fin : ∀ j,j = i → ¬ (i + 1 ≤ Nib.common x y) → Ending.returned (.int .i64 ((j : Nat) : Int)) = .returned (.int .i64 ((Nib.common x y : Nat) : Int)):=fun j e h=>ret_int (by omega)
  have Fin:=Lib.hid fin
  clear fin
  by_cases hi : i < x.length
  ·by_cases hj : i < y.length
   ·have hst:=Nib.common_step h2 hi hj
    by_cases hc : x[i] = y[i]
    ·have hq : ((x[i].toNat : Int) == (y[i].toNat : Int)) = true:=by rw [hc]; simp
     have h3:=hst.2 hc
     clear hst hc
     go_wp2
     go_quiet (fail)
     go_wp2
     refine Handed.intro (x.length - (i + 1)) ?_ (hJ1 _ _ _ (fun Φ hΦ=>hΦ _ _ _ _ _ _ _ _ _ _ _ _ _ _ _ _ _ _ _ _ _ _ _ _ _ (i + 1) ?_))
     ·omega
     ·exact ⟨by omega,h3,below_drewN hb _⟩
    ·have hq : ((x[i].toNat : Int) == (y[i].toNat : Int)) = false:=by
      rw [beq_eq_false_iff_ne]; intro e; exact hc (UInt8.toNat_inj.1 (by omega))
     have h3:=mt hst.1 hc
     have F:=Lib.hid (Fin.out i rfl h3)
     clear hst hc h3 Fin
     go_wp2
     go_quiet (fail)
     go_wp2
     go_ret
     exact ⟨F.out,below_drewN hb _⟩
   ·have F:=Lib.hid (Fin.out i rfl (by omega))
    have hq : decide ((i : Int) < (y.length : Int)) = false:=by simp; omega
    clear Fin
    go_wp2
    go_quiet (fail)
    go_wp2
    go_ret
    exact ⟨F.out,below_drewN hb _⟩
  ·have F:=Lib.hid (Fin.out i rfl (by omega))
   have hq : decide ((i : Int) < (x.length : Int)) = false:=by simp; omega
   clear Fin
   go_wp2
   go_quiet (fail)
   go_wp2
   go_ret
   exact ⟨F.out,below_drewN hb _⟩
set_option maxRecDepth 100000 in
set_option maxHeartbeats 400000 in
theorem nib_joined (s : List UInt8) (w : World) (hs : s.length ≤ 1048576) (hf : Nib.fit s = true) :
  Calls Tryz.prog 100 #[.string ⟨s.toArray⟩] w fun e w'=>e = .returned (.string ⟨(Nib.joined s).toArray⟩) ∧ Below w.heap.size w w':=by
 obtain ⟨i0,hi0,hz0,hz1,hz2⟩:=info_parts info_byte
 have hfit : ∀ i,(h : i < s.length) → s[i] ≤ 15:=fun i h=>by
  unfold Nib.fit at hf; rw [List.all_eq_true] at hf; simpa using hf s[i] (List.getElem_mem h)
 have HF:=Lib.hid hfit
 clear hfit hf
 go_enter Tryz.func100,Tryz.ntmps100
 go_wp2_with (at_make; refine wpList_make_own _ rfl _ _ 140 rfl w.heap.size 5 i0 _ 1 Tryz.underlying140 hi0 hz0 hz1 .i64 .i64 _ (s.length / 2) rfl rfl (by omega) (by rw [hz2]; omega) (by simp only [maxLen]; omega) (Nat.le_refl _) ?_; intro w1 hown1 hg1)
 have hb1 : Below w.heap.size w w1:=(Below.refl _ _).grown hg1 (Nat.le_refl _) (by simp)
 refine wp_loop_ghost_k (fun k a wr => ∀ Φ : Act → Prop,(∀ (s1 s2 s4 s5 s6 s7 s8 s9 s10 s13 s14 s15 s16 s17 s18 s19 s20 s21 s22 s23 s24 s25 s26 s27 s28 s29 s30 s31 : Value) (i : Nat) (v : Value) (t : List UInt8),(i + k = s.length / 2 ∧ t.length = i ∧ t = Nib.joined (s.take (2 * i)) ∧ wr.ownsRow w.heap.size 5 1 v i (bvals t) ∧ Below w.heap.size w wr) → Φ { tmps:=#[.string ⟨s.toArray⟩,s1,s2,v,s4,s5,s6,s7,s8,s9,s10,.int .i64 (s.length / 2 : Nat),.int .i64 i,s13,s14,s15,s16,s17,s18,s19,s20,s21,s22,s23,s24,s25,s26,s27,s28,s29,s30,s31],defers := [] }) → Φ a) (s.length / 2) ?_ ?_
 ·refine fun Φ hΦ=>hΦ _ _ _ _ _ _ _ _ _ _ _ _ _ _ _ _ _ _ _ _ _ _ _ _ _ _ _ _ (0) (_) ([]) ?_
  exact ⟨by omega,rfl,rfl,hown1,hb1⟩
 ·intro k1 a1 wr1 hI1 J1 K1 hJ1 hK1
  refine hI1 (fun a=>Code.wp _ _ _ a _) ?_
  clear hI1 a1
  intro s0 s1 s2 s3 s4 s5 s6 s7 s8 s9 s10 s11 s12 s13 s14 s15 s16 s17 s18 s19 s20 s21 s22 s23 s24 s25 s26 s27 i v t hrel
  show Code.wp _ _ _ _ _
  obtain ⟨h1,h2,h3,hown,hb⟩:=hrel
  have H3:=Lib.hid h3
  clear h3
  by_cases hi : i < s.length / 2
  ·have h4 : 2 * i + 1 < s.length:=by omega
   obtain ⟨bb,hbb⟩ : ∃ bb,bb = s[2 * i] * 16 + s[2 * i + 1]:=⟨_,rfl⟩
   have q9:=u8_pack s[2 * i] s[2 * i + 1] (HF.out _ _) (HF.out _ _)
   rw [← hbb] at q9
   have HE : Hid (t ++ [bb] = Nib.joined (s.take (2 * (i + 1)))):=Lib.hid (by have:=Nib.joined_take s i h4; rw [← H3.out,← hbb] at this; exact this.symm)
   clear hbb
   clear H3
   go_wp2
   have q1 : IntKind.i64.wrap (2 * (i : Int)) = 2 * (i : Int):=IntWalk.i64_in _ (by omega)
   have q2 : IntKind.i64.wrap (2 * (i : Int) + 1) = 2 * (i : Int) + 1:=IntWalk.i64_in _ (by omega)
   have q3 : (2 * (i : Int)).toNat = 2 * i:=by omega
   have q4 : (2 * (i : Int) + 1).toNat = 2 * i + 1:=by omega
   have q5 : 2 * (i : Int) < (s.length : Int):=by omega
   have q6 : 2 * (i : Int) + 1 < (s.length : Int):=by omega
   have q7 : 0 ≤ 2 * (i : Int):=by omega
   have q8 : 0 ≤ 2 * (i : Int) + 1:=by omega
   go_region_law (refine step_append_new wr1 5 [.int .u8 (bb.toNat : Int)] rfl _ _ 140 rfl w.heap.size 1 1 _ info_byte Tryz.underlying140 rfl (by decide) v _ _ rfl hown 1 1 rfl rfl (by simp [Value.oneCell']) (by simp only [maxLen]; omega) (by omega) w.heap.size w hb (Nat.le_refl _) hb.size ?_; intro v1 w1 hown1 hb1 _ _ _)
   all_goals go_wp2
   all_goals (refine Handed.intro (s.length / 2 - (i + 1)) ?_ (hJ1 _ _ _ (fun Φ hΦ=>hΦ _ _ _ _ _ _ _ _ _ _ _ _ _ _ _ _ _ _ _ _ _ _ _ _ _ _ _ _ (i + 1) (v1) (t ++ [bb]) ?_)))
   any_goals omega
   all_goals exact ⟨by omega,by simp; omega,HE.out,by simpa [bvals] using hown1,hb1⟩
  ·obtain ⟨A,c,rfl,hr, -, -⟩:=own_form hown
   have hconv:=conv_reads _ _ _ _ c t hr
   have E2 : Hid (t = Nib.joined s):=Lib.hid (by
    rw [H3.out]
    have e : i = s.length / 2:=by omega
    rw [e]; exact Nib.joined_half s)
   clear H3
   go_wp2
   go_ret
   exact ⟨ret_string (by rw [E2.out]),hb⟩
set_option maxRecDepth 100000 in
set_option maxHeartbeats 400000 in
theorem nib_Key (s : List UInt8) (w : World) (hs : s.length ≤ 1048576) :
  Calls Tryz.prog 60 #[.string ⟨s.toArray⟩] w fun e w'=>e = .returned (.tuple #[.string ⟨(Nib.key s).1.toArray⟩,.int .i64 (Nib.key s).2]) ∧ Below w.heap.size w w':=by
 by_cases hf : Nib.fit s = true
 ·by_cases hp : s.length % 2 = 1
  ·have HE : Hid (Nib.key s = ([],4)):=Lib.hid (by unfold Nib.key; rw [if_pos hf,if_pos hp])
   have hq : (((s.length : Nat) : Int) % 2 == 1) = true:=by rw [beq_iff_eq]; omega
   have HF:=Lib.hid hf
   clear hf hp
   go_enter Tryz.func60,Tryz.ntmps60
   go_wp2_with fail
   refine (nib_Fit s _ hs).mono ?_
   rintro e w1 ⟨rfl,rfl⟩
   rw [HF.out]
   go_wp2
   go_ret2
   exact ⟨by rw [HE.out]; rfl,Below.refl _ _⟩
  ·have HE : Hid (Nib.key s = (Nib.joined s,0)):=Lib.hid (by unfold Nib.key; rw [if_pos hf,if_neg hp])
   have hq : (((s.length : Nat) : Int) % 2 == 1) = false:=by rw [beq_eq_false_iff_ne]; omega
   have HF:=Lib.hid hf
   clear hf hp
   go_enter Tryz.func60,Tryz.ntmps60
   go_wp2_with fail
   refine (nib_Fit s _ hs).mono ?_
   rintro e w1 ⟨rfl,rfl⟩
   rw [HF.out]
   go_wp2_with fail
   refine (nib_joined s _ hs HF.out).mono ?_
   rintro e w1 ⟨rfl,hb⟩
   go_wp2
   go_ret2
   exact ⟨by rw [HE.out]; rfl,hb⟩
 ·have HE : Hid (Nib.key s = ([],3)):=Lib.hid (by unfold Nib.key; rw [if_neg hf])
  have HF:=Lib.hid (show Nib.fit s = false by simpa using hf)
  clear hf
  go_enter Tryz.func60,Tryz.ntmps60
  go_wp2_with fail
  refine (nib_Fit s _ hs).mono ?_
  rintro e w1 ⟨rfl,rfl⟩
  rw [HF.out]
  go_wp2
  go_ret2
  exact ⟨by rw [HE.out]; rfl,Below.refl _ _⟩
end Go.Proofs.YtomnlhbioijfhaaGreatDoor
namespace Go.Proofs.YtomnlhbioijfhaaGreatDoor
open Go.RowKit
attribute [local go_sem] ba_get ByteArray.mk_append_mk ByteArray.extract_mk
set_option maxHeartbeats 400000 in
theorem nib_Pack_bad (s : List UInt8) (leaf : Bool) (w : World) (hs : s.length ≤ 1048576) (hf : Nib.fit s = false) :
  Calls Tryz.prog 162 #[.string ⟨s.toArray⟩,.bool leaf] w fun e w'=>e = .returned (.tuple #[.string ⟨#[]⟩,.int .i64 3]) ∧ Below w.heap.size w w':=by
 have HF:=Lib.hid hf
 clear hf
 go_enter Tryz.func162,Tryz.ntmps162
 go_wp2_with fail
 refine (nib_Fit s _ hs).mono ?_
 rintro e w1 ⟨rfl,rfl⟩
 rw [HF.out]
 go_wp2
 go_ret2
 exact ⟨rfl,Below.refl _ _⟩
set_option maxHeartbeats 400000 in
theorem nib_Pack_even (s : List UInt8) (leaf : Bool) (w : World) (hs : s.length ≤ 1048576) (hf : Nib.fit s = true) (hp : s.length % 2 = 0) :
  Calls Tryz.prog 162 #[.string ⟨s.toArray⟩,.bool leaf] w fun e w'=>e = .returned (.tuple #[.string ⟨((if leaf then 32 else 0) :: Nib.joined s).toArray⟩,.int .i64 0]) ∧ Below w.heap.size w w':=by
 have HF:=Lib.hid hf
 clear hf
 have hq : (((s.length : Nat) : Int) % 2 == 1) = false:=by rw [beq_eq_false_iff_ne]; omega
 have hjl:=Nib.joined_length s
 have HJ : (Nib.joined s).length ≤ 1048576:=by omega
 clear hjl
 cases leaf
 ·go_enter Tryz.func162,Tryz.ntmps162
  go_wp2_with fail
  refine (nib_Fit s _ hs).mono ?_
  rintro e w1 ⟨rfl,rfl⟩
  rw [HF.out]
  have hc1:=fun W=>conv1 W 0 (by omega) (by omega)
  have hc2:=fun W=>conv1d W 0 (by omega) (by omega)
  have hc3:=fun w1=>conv1_below w w1 0 (by omega) (by omega)
  go_wp2_with fail
  go_region_with (go_at_call 100; refine (nib_joined s _ hs HF.out).mono ?_; rintro e w1 ⟨rfl,hb⟩; try simp only [World.size_drew,World.size_alloc] at hb; have hbw : Below w.heap.size w w1:=(by first | exact hb | exact hb.start | exact ((Below.refl _ _).alloc (Nat.le_refl _) _).drew.trans (hb.mono (by simp))); have hsz1:=hbw.size)
  all_goals go_wp2
  all_goals go_ret2
  all_goals exact ⟨rfl,by go_grown⟩
 ·go_enter Tryz.func162,Tryz.ntmps162
  go_wp2_with fail
  refine (nib_Fit s _ hs).mono ?_
  rintro e w1 ⟨rfl,rfl⟩
  rw [HF.out]
  have hc1:=fun W=>conv1 W 32 (by omega) (by omega)
  have hc2:=fun W=>conv1d W 32 (by omega) (by omega)
  have hc3:=fun w1=>conv1_below w w1 32 (by omega) (by omega)
  go_wp2_with fail
  go_region_with (go_at_call 100; refine (nib_joined s _ hs HF.out).mono ?_; rintro e w1 ⟨rfl,hb⟩; try simp only [World.size_drew,World.size_alloc] at hb; have hbw : Below w.heap.size w w1:=(by first | exact hb | exact hb.start | exact ((Below.refl _ _).alloc (Nat.le_refl _) _).drew.trans (hb.mono (by simp))); have hsz1:=hbw.size)
  all_goals go_wp2
  all_goals go_ret2
  all_goals exact ⟨rfl,by go_grown⟩
set_option maxHeartbeats 400000 in
theorem nib_Pack_odd (a : UInt8) (s : List UInt8) (leaf : Bool) (w : World) (hs : s.length ≤ 1048575) (hf : Nib.fit (a :: s) = true) (hp : (a :: s).length % 2 = 1) :
  Calls Tryz.prog 162 #[.string ⟨(a :: s).toArray⟩,.bool leaf] w fun e w'=>e = .returned (.tuple #[.string ⟨((if leaf then 48 + a else 16 + a) :: Nib.joined s).toArray⟩,.int .i64 0]) ∧ Below w.heap.size w w':=by
 have ha : a ≤ 15:=by unfold Nib.fit at hf; simp at hf; exact hf.1
 have hf2 : Nib.fit s = true:=by unfold Nib.fit at hf ⊢; simp at hf ⊢; exact hf.2
 have HF:=Lib.hid hf
 have HF2:=Lib.hid hf2
 clear hf hf2
 have hp' : (s.length + 1) % 2 = 1:=by simpa using hp
 have hq : ((((s.length : Nat) : Int) + 1) % 2 == 1) = true:=by rw [beq_iff_eq]; omega
 have hjl:=Nib.joined_length s
 have HJ : (Nib.joined s).length ≤ 1048576:=by omega
 obtain ⟨o1,o2,o3⟩:=u8_or16 a ha
 have ha' : a.toNat ≤ 15:=by rw [UInt8.le_iff_toNat_le] at ha; simpa using ha
 have HS : (a :: s).length ≤ 1048576:=by simp; omega
 have e16 : UInt8.ofNat (16 + a.toNat) = 16 + a:=by simp
 have e48 : UInt8.ofNat (48 + a.toNat) = 48 + a:=by simp
 have E:=Lib.hid (And.intro e16 e48)
 clear hjl hp hp' ha e16 e48
 generalize hb16 : (16 + a.toNat : Nat) = b16 at o1 o2 o3
 generalize hb48 : (48 + a.toNat : Nat) = b48 at o3
 have h16 : b16 < 256:=by omega
 have h48 : b48 < 256:=by omega
 have B:=Lib.hid (And.intro hb16 hb48)
 clear hb16 hb48
 cases leaf
 ·go_enter Tryz.func162,Tryz.ntmps162
  go_wp2_with fail
  refine (nib_Fit (a :: s) _ HS).mono ?_
  rintro e w1 ⟨rfl,rfl⟩
  rw [HF.out]
  have hc1:=fun W=>conv1 W (b16 : Int) (by omega) (by omega)
  have hc2:=fun W=>conv1d W (b16 : Int) (by omega) (by omega)
  have hc3:=fun w1=>conv1_below w w1 (b16 : Int) (by omega) (by omega)
  go_wp2_with fail
  go_region_with (go_at_call 100; refine (nib_joined s _ (by omega) HF2.out).mono ?_; rintro e w1 ⟨rfl,hb⟩; try simp only [World.size_drew,World.size_alloc] at hb; have hbw : Below w.heap.size w w1:=(by first | exact hb | exact hb.start | exact ((Below.refl _ _).alloc (Nat.le_refl _) _).drew.trans (hb.mono (by simp))); have hsz1:=hbw.size)
  all_goals go_wp2
  all_goals go_ret2
  all_goals have e1 : UInt8.ofNat b16 = 16 + a:=by rw [← B.out.1]; exact E.out.1
  all_goals exact ⟨by rw [e1]; rfl,by go_grown⟩
 ·go_enter Tryz.func162,Tryz.ntmps162
  go_wp2_with fail
  refine (nib_Fit (a :: s) _ HS).mono ?_
  rintro e w1 ⟨rfl,rfl⟩
  rw [HF.out]
  have hc1:=fun W=>conv1 W (b48 : Int) (by omega) (by omega)
  have hc2:=fun W=>conv1d W (b48 : Int) (by omega) (by omega)
  have hc3:=fun w1=>conv1_below w w1 (b48 : Int) (by omega) (by omega)
  go_wp2_with fail
  go_region_with (go_at_call 100; refine (nib_joined s _ (by omega) HF2.out).mono ?_; rintro e w1 ⟨rfl,hb⟩; try simp only [World.size_drew,World.size_alloc] at hb; have hbw : Below w.heap.size w w1:=(by first | exact hb | exact hb.start | exact ((Below.refl _ _).alloc (Nat.le_refl _) _).drew.trans (hb.mono (by simp))); have hsz1:=hbw.size)
  all_goals go_wp2
  all_goals go_ret2
  all_goals have e1 : UInt8.ofNat b48 = 48 + a:=by rw [← B.out.2]; exact E.out.2
  all_goals exact ⟨by rw [e1]; rfl,by go_grown⟩
theorem nib_Pack (s : List UInt8) (leaf : Bool) (w : World) (hs : s.length ≤ 1048575) :
  Calls Tryz.prog 162 #[.string ⟨s.toArray⟩,.bool leaf] w fun e w'=>e = .returned (.tuple #[.string ⟨(Nib.pack s leaf).1.toArray⟩,.int .i64 (Nib.pack s leaf).2]) ∧ Below w.heap.size w w':=by
 by_cases hf : Nib.fit s = true
 ·by_cases hp : s.length % 2 = 1
  ·obtain ⟨a,r,rfl⟩ : ∃ a r,s = a :: r:=by
    cases s with
    | nil=>simp at hp
    | cons a r=>exact ⟨a,r,rfl⟩
   have e : Nib.pack (a :: r) leaf = ((if leaf then 48 + a else 16 + a) :: Nib.joined r,0):=by
    unfold Nib.pack; rw [if_pos hf,Nib.packed_odd hp]
   rw [e]
   exact nib_Pack_odd a r leaf w (by simp at hs; omega) hf hp
  ·have e : Nib.pack s leaf = ((if leaf then 32 else 0) :: Nib.joined s,0):=by
    unfold Nib.pack; rw [if_pos hf,Nib.packed_even (by omega)]
   rw [e]
   exact nib_Pack_even s leaf w (by omega) hf (by omega)
 ·have e : Nib.pack s leaf = ([],3):=by unfold Nib.pack; rw [if_neg hf]
  rw [e]
  exact nib_Pack_bad s leaf w (by omega) (by simpa using hf)
end Go.Proofs.YtomnlhbioijfhaaGreatDoor
namespace Go.Proofs.YtomnlhbioijfhaaGreatDoor
open Go.RowKit Go.Instr
attribute [local go_sem] ba_get ByteArray.mk_append_mk
def pathOk (p : List UInt8) (least : Nat) : Bool:=Nib.fit p && decide (least ≤ p.length ∧ p.length ≤ 16)
set_option maxRecDepth 100000 in
theorem node_path (p : List UInt8) (least : Nat) (hl : least ≤ 1) (hp : p.length ≤ 1048576) (w : World) :
  Calls Tryz.prog 143 #[.string ⟨p.toArray⟩,.int .i64 (least : Int)] w fun e w'=>e = .returned (.bool (pathOk p least)) ∧ w = w':=by
 have HF:=nib_Fit p w hp
 have HP : Hid (∀ b w',pathOk p least = b → w = w' → (fun e w'=>e = Ending.returned (.bool (pathOk p least)) ∧ w = w') (Ending.returned (.bool b)) w'):=Lib.hid (fun b w' e hb=>⟨by rw [e],hb⟩)
 generalize (fun e w'=>e = Ending.returned (.bool (pathOk p least)) ∧ w = w') = P at HP ⊢
 unfold pathOk at HP
 cases hf : Nib.fit p with
 | false =>
  rw [hf] at HF HP
  go_enter Tryz.func143,Tryz.ntmps143
  go_wp2_with fail
  refine HF.mono ?_
  rintro e w1 ⟨rfl,rfl⟩
  go_wp2
  exact HP.out _ _ (by simp) rfl
 | true =>
  rw [hf] at HF HP
  by_cases h1 : least ≤ p.length
  ·have h1' : (least : Int) ≤ p.length:=by omega
   by_cases h2 : p.length ≤ 16
   ·have h2' : (p.length : Int) ≤ 16:=by omega
    go_enter Tryz.func143,Tryz.ntmps143
    go_wp2_with fail
    refine HF.mono ?_
    rintro e w1 ⟨rfl,rfl⟩
    go_wp2
    exact HP.out _ _ (by simp [h1,h2]) rfl
   ·have h2' : ((p.length : Int) ≤ 16) = False:=by simp; omega
    go_enter Tryz.func143,Tryz.ntmps143
    go_wp2_with fail
    refine HF.mono ?_
    rintro e w1 ⟨rfl,rfl⟩
    go_wp2
    exact HP.out _ _ (by simp [h2]) rfl
  ·have h1' : ((least : Int) ≤ p.length) = False:=by simp; omega
   go_enter Tryz.func143,Tryz.ntmps143
   go_wp2_with fail
   refine HF.mono ?_
   rintro e w1 ⟨rfl,rfl⟩
   go_wp2
   exact HP.out _ _ (by simp [h1]) rfl
def strv (l : List (List UInt8)) : List Value:=l.map fun s=>.string ⟨s.toArray⟩
theorem strv_length (l : List (List UInt8)) : (strv l).length = l.length:=by simp [strv]
theorem strv_at {l : List (List UInt8)} {i : Nat} (h : i < l.length) : (strv l)[i]? = some (.string ⟨l[i].toArray⟩):=by
 simp [strv,h]
def sumsOk (l : List (List UInt8)) : Bool:=l.all fun s=>decide (s.length = 32)
set_option maxRecDepth 100000 in
theorem node_sums (l : List (List UInt8)) (hl : l.length ≤ 1000) (w : World) (A : Option Addr) (c : Nat) (HR : Reads w w.heap.size 1 A l.length (strv l)) :
  Calls Tryz.prog 144 #[.slice A l.length c] w fun e w'=>e = .returned (.bool (sumsOk l)) ∧ w = w':=by
 go_enter Tryz.func144,Tryz.ntmps144
 go_wp2
 refine wp_loop_ghost_k (fun k a wr => ∀ Φ : Act → Prop,(∀ (s0 s1 s2 s3 s4 s8 s9 s10 s11 s12 s13 s14 : Value) (i : Nat),(i + k = l.length ∧ sumsOk (l.take i) = true ∧ wr = w) → Φ { tmps:=#[s0,s1,s2,s3,s4,.slice A l.length c,.int .i64 l.length,.int .i64 i,s8,s9,s10,s11,s12,s13,s14],defers := [] }) → Φ a) (l.length) ?_ ?_
 ·refine fun Φ hΦ=>hΦ _ _ _ _ _ _ _ _ _ _ _ _ (0) ?_
  exact ⟨by omega,rfl,rfl⟩
 ·intro k1 a1 wr1 hI1 J1 K1 hJ1 hK1
  refine hI1 (fun a=>Code.wp _ _ _ a _) ?_
  clear hI1 a1
  intro s0 s1 s2 s3 s4 s5 s6 s7 s8 s9 s10 s11 i hrel
  show Code.wp _ _ _ _ _
  obtain ⟨h1,h2,rfl⟩:=hrel
  by_cases hi : i < l.length
  ·obtain ⟨ad,rfl,hbl,hcell⟩:=HR.2 (by omega)
   have q0:=hcell i _ (strv_at hi)
   have hi1 : (i : Int) < l.length:=by omega
   have hs : sumsOk (l.take (i + 1)) = decide (l[i].length = 32):=by
    rw [List.take_succ_eq_append_getElem hi]
    unfold sumsOk at *
    rw [List.all_append,h2]
    simp
   have hf : decide (l[i].length = 32) = false → sumsOk l = false:=fun h=>by
    rw [Bool.eq_false_iff]
    intro hc
    unfold sumsOk at hc
    rw [List.all_eq_true] at hc
    have:=hc _ (List.getElem_mem hi)
    rw [h] at this
    cases this
   clear hcell HR
   generalize l[i] = s at *
   by_cases h32 : s.length = 32
   ·have e32 : ((s.length : Int) = 32) = True:=by simp; omega
    have T:=Lib.hid (show sumsOk (l.take (i + 1)) = true from hs.trans (by simp [h32]))
    clear hs hf
    go_wp2
    refine Handed.intro (l.length - (i + 1)) ?_ (hJ1 _ _ _ (fun Φ hΦ=>hΦ _ _ _ _ _ _ _ _ _ _ _ _ (i + 1) ?_))
    ·omega
    ·exact ⟨by omega,T.out,rfl⟩
   ·have e32 : ((s.length : Int) = 32) = False:=by simp; omega
    have T:=Lib.hid (hf (by simp [h32]))
    clear hs hf
    go_wp2
    go_ret
    exact ⟨ret_bool T.out.symm,rfl⟩
  ·have e : l.take i = l:=List.take_of_length_le (by omega)
   have hi2 : ((i : Int) < l.length) = False:=by simp; omega
   rw [e] at h2
   have E2:=Lib.hid h2
   clear h2 e
   go_wp2
   go_ret
   exact ⟨ret_bool E2.out.symm,rfl⟩
def kidsW (K : List (List UInt8)) : List (List UInt8):=K.filter fun s => !s.isEmpty
theorem kidsW_snoc (K : List (List UInt8)) (i : Nat) (h : i < K.length) : kidsW (K.take (i + 1)) = kidsW (K.take i) ++ (if K[i].isEmpty then [] else [K[i]]):=by
 rw [List.take_succ_eq_append_getElem h]
 unfold kidsW
 rw [List.filter_append]
 cases h2 : K[i].isEmpty <;> simp [h2]
theorem info_str : (Tryz.prog.info? 9).map (fun i=>(i.zero,i.size,i.bytes)) = some (some (.string ⟨#[]⟩),1,16):=by kernel_rfl
theorem size_arr : (Tryz.prog.info? 115).map (·.size) = some 16:=by kernel_rfl
theorem run_index_k (K : List (List UInt8)) (hK : K.length = 16) (i : Nat) (hi : i < 16) (w : World) : (Instr.index 115 (.agg (strv K).toArray) (.int .i64 (i : Int))).run Tryz.prog w = .ok (.string ⟨(K.getD i []).toArray⟩) w:=by
 have a0:=Tryz.isAgg9
 have z0:=Tryz.sizeOf9
 have e : (strv K)[i]? = some (.string ⟨(K.getD i []).toArray⟩):=by
  rw [strv_at (show i < K.length by omega),List.getD_eq_getElem?_getD,List.getElem?_eq_getElem (show i < K.length by omega)]
  rfl
 simp [Instr.index,asIntOf,run_underlying Tryz.underlying115,part,a0,z0,hi,e]
set_option maxRecDepth 100000 in
theorem kids_loop (w w0 : World) (K : List (List UInt8)) (hK : K.length = 16) (hb : Below w.heap.size w w0)
  (Q : Exit → Act → World → Prop)
  (hQ : ∀ (s0 s1 s2 s4 s5 s6 s7 s8 s9 s10 s11 s12 s13 s14 s15 s16 s17 s18 : Value) (A : Option Addr) (c n : Nat) (w2 : World),n = (kidsW K).length → w2.ownsRow w.heap.size 9 1 (.slice A n c) n (strv (kidsW K)) → Below w.heap.size w w2 → Q (.exit 0) { tmps:=#[s0,s1,s2,.slice A n c,s4,s5,s6,s7,s8,s9,s10,s11,s12,s13,s14,s15,s16,s17,s18],defers := [] } w2)
  (s0 s1 s2 s4 s5 s6 s9 s10 s11 s12 s13 s14 s15 s16 s17 s18 : Value) :
  Code.wp Tryz.prog (.loop (loopAt Tryz.f142 0)) Q { tmps:=#[s0,s1,s2,.slice none 0 0,s4,s5,s6,.agg (strv K).toArray,.int .i64 0,s9,s10,s11,s12,s13,s14,s15,s16,s17,s18],defers := [] } w0:=by
 have HQ:=Lib.hid hQ
 clear hQ
 refine wp_loop_ghost_k (fun k a wr => ∀ Φ : Act → Prop,(∀ (s0 s1 s2 s4 s5 s6 s9 s10 s11 s12 s13 s14 s15 s16 s17 s18 : Value) (i n c : Nat) (A : Option Addr),(i + k = 16 ∧ n = (kidsW (K.take i)).length ∧ n ≤ i ∧ wr.ownsRow w.heap.size 9 1 (.slice A n c) n (strv (kidsW (K.take i))) ∧ Below w.heap.size w wr) → Φ { tmps:=#[s0,s1,s2,.slice A n c,s4,s5,s6,.agg (strv K).toArray,.int .i64 i,s9,s10,s11,s12,s13,s14,s15,s16,s17,s18],defers := [] }) → Φ a) (16) ?_ ?_
 ·refine fun Φ hΦ=>hΦ _ _ _ _ _ _ _ _ _ _ _ _ _ _ _ _ (0) (0) (0) (none) ?_
  exact ⟨by omega,by simp [kidsW],by omega,by simpa [kidsW,strv] using World.ownsRow_nil _ _ _ _,hb⟩
 ·intro k1 a1 wr1 hI1 J1 K1 hJ1 hK1
  refine hI1 (fun a=>Code.wp _ _ _ a _) ?_
  clear hI1 a1
  intro s0 s1 s2 s3 s4 s5 s6 s7 s8 s9 s10 s11 s12 s13 s14 s15 i n c A hrel
  show Code.wp _ _ _ _ _
  conv=>arg 2; whnf
  obtain ⟨h1,h2,h3,own,hb⟩:=hrel
  by_cases hi : i < 16
  ·have hi1 : (i : Int) < 16:=by omega
   have HX:=fun w=>run_index_k K hK i hi w
   have hks:=kidsW_snoc K i (by omega)
   have hg : K.getD i [] = K[i]'(by omega):=by rw [List.getD_eq_getElem?_getD,List.getElem?_eq_getElem (show i < K.length by omega)]; rfl
   rw [← hg] at hks
   generalize K.getD i [] = s at *
   clear hg
   have HI:=Lib.hid (And.intro h1 (And.intro h2 (And.intro h3 hb)))
   have HK:=Lib.hid hks
   have hn16 : n ≤ 16:=by omega
   generalize kidsW (K.take i) = D at *
   cases s with
   | nil =>
    have O:=Lib.hid own
    clear own h1 h2 h3 hb hks
    go_wp2
    refine Handed.intro (16 - (i + 1)) ?_ (hJ1 _ _ _ (fun Φ hΦ=>hΦ _ _ _ _ _ _ _ _ _ _ _ _ _ _ _ _ (i + 1) (n) (c) (A) ?_))
    ·have:=HI.out.1
     omega
    ·rw [HK.out]
     simp only [List.isEmpty_nil,if_true,List.append_nil]
     exact ⟨by have:=HI.out.1; omega,HI.out.2.1,by have:=HI.out.2.2.1; omega,O.out,HI.out.2.2.2⟩
   | cons a t =>
    have ne1 : ((a :: t).toArray = #[]) = False:=by simp
    have hone : ∀ u ∈ [Value.string ⟨(a :: t).toArray⟩],u.oneCell' = true:=by intro u hu; rw [List.mem_singleton] at hu; subst hu; rfl
    clear h1 h2 h3 hks
    have se : (a :: t).isEmpty = false:=rfl
    generalize hs : (a :: t) = s at *
    go_wp2_with (at_builtin; refine wpList_append_new wr1 9 [.string ⟨s.toArray⟩] rfl _ _ 25 rfl w.heap.size 1 16 _ info_str Tryz.underlying25 rfl (by decide) (.slice A n c) n (strv D) rfl own 1 1 rfl rfl hone (by simp only [maxLen]; omega) (by omega) w.heap.size w hb (Nat.le_refl _) hb.size ?_; intro v3 w3 own3 hb3 _ _ _; obtain ⟨A3,c3,rfl,_,_,_⟩:=own_form own3; have O3:=Lib.hid own3; clear own3)
    refine Handed.intro (16 - (i + 1)) ?_ (hJ1 _ _ _ (fun Φ hΦ=>hΦ _ _ _ _ _ _ _ _ _ _ _ _ _ _ _ _ (i + 1) (n + 1) (c3) (A3) ?_))
    ·have:=HI.out.1
     omega
    ·rw [HK.out,se]
     simp only [Bool.false_eq_true,if_false]
     refine ⟨by have:=HI.out.1; omega,by rw [List.length_append,← HI.out.2.1]; rfl,by have:=HI.out.2.2.1; omega, ?_,hb3⟩
     rw [show strv (D ++ [s]) = strv D ++ [.string ⟨s.toArray⟩] by simp [strv]]
     exact O3.out
  ·have e16 : i = 16:=by omega
   subst e16
   rw [List.take_of_length_le (by omega)] at h2 own
   have O:=Lib.hid (And.intro own hb)
   clear own hb
   go_wp2
   exact HQ.out _ _ _ _ _ _ _ _ _ _ _ _ _ _ _ _ _ _ _ _ _ _ h2 O.out.1 O.out.2
def KidsEnd (w : World) (K : List (List UInt8)) (e : Ending) (w' : World) : Prop :=
 ∃ A c n,e = .returned (.slice A n c) ∧ n = (kidsW K).length ∧ w'.ownsRow w.heap.size 9 1 (.slice A n c) n (strv (kidsW K)) ∧ Below w.heap.size w w'
set_option maxRecDepth 100000 in
theorem node_Kids (w : World) (nk np nv : Value) (h1 : nk.oneCell' = true) (h2 : np.oneCell' = true) (h3 : nv.oneCell' = true) (K : List (List UInt8)) (hK : K.length = 16) :
  Calls Tryz.prog 142 #[.agg (nk :: np :: nv :: strv K).toArray] w (KidsEnd w K):=by
 have HP : Hid (∀ A c n w',n = (kidsW K).length → w'.ownsRow w.heap.size 9 1 (.slice A n c) n (strv (kidsW K)) → Below w.heap.size w w' → KidsEnd w K (.returned (.slice A n c)) w'):=Lib.hid (fun A c n w' g1 g2 g3=>⟨A,c,n,rfl,g1,g2,g3⟩)
 have hsz : (strv K).length = 16:=by rw [strv_length,hK]
 generalize KidsEnd w K = P at HP ⊢
 go_enter Tryz.func142,Tryz.ntmps142
 have SZ : (Tryz.prog.info? 115).map (·.size) = some (strv K).length:=by rw [hsz]; exact size_arr
 have RNG : (w.alloc (.cells (nk :: np :: nv :: strv K).toArray 117)).rangeAt w.heap.size 3 (strv K):=fun j v hv=>by
  rw [World.cell?_alloc_at _ _ _ _ rfl]
  rw [show 3 + j = j + 1 + 1 + 1 by omega]
  simpa using hv
 go_upto_region 2 with fail
 go_upto_region 3 with (refine wpList_load_mid rfl 115 _ rfl w.heap.size 3 rfl (strv K) _ RNG Tryz.underlying115 rfl SZ ?_)
 refine kids_loop w (w.alloc (.cells (nk :: np :: nv :: strv K).toArray 117)) K hK (by go_grown) _ ?_ _ _ _ _ _ _ _ _ _ _ _ _ _ _ _ _
 intro s0 s1 s2 s4 s5 s6 s7 s8 s9 s10 s11 s12 s13 s14 s15 s16 s17 s18 A c n w2 g1 g2 g3
 go_wp2
 exact HP.out _ _ _ _ g1 g2 g3
end Go.Proofs.YtomnlhbioijfhaaGreatDoor
