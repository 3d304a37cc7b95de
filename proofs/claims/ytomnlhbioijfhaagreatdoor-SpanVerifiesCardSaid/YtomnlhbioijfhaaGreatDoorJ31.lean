import Derived.Test.YtomnlhbioijfhaaGreatDoorJ30
import Derived.Test.YtomnlhbioijfhaaGreatDoorJ06
import Derived.Test.YtomnlhbioijfhaaGreatDoorJ11
import Derived.Test.YtomnlhbioijfhaaGreatDoorJ07
import Derived.Test.YtomnlhbioijfhaaGreatDoorJ19
import Derived.Test.YtomnlhbioijfhaaGreatDoorJ22
import Derived.Test.YtomnlhbioijfhaaGreatDoorJ27
import Derived.Test.YtomnlhbioijfhaaGreatDoorJ26
set_option linter.unusedSimpArgs false
set_option linter.unusedVariables false
namespace Go.Proofs.YtomnlhbioijfhaaGreatDoor
namespace Trie
theorem nextB_short : ∀ (m : Nat) (k : List UInt8),k.length < m → nextB m k = some (k ++ [0])
 | 0,k,h=>by omega
 | m + 1, [],h=>rfl
 | m + 1,b :: r,h=>by
  rw [List.length_cons] at h
  simp only [nextB]
  rw [nextB_short m r (by omega)]
  rfl
theorem nextB_full : ∀ (m : Nat) (k : List UInt8),k.length = m → ∀ n,n ≤ m → (∀ i,n ≤ i → i < m → k[i]? = some 255) →
  (n = 0 → nextB m k = none) ∧ (∀ b,0 < n → k[n - 1]? = some b → b ≠ 255 → nextB m k = some (k.take (n - 1) ++ [b + 1]))
 | 0,k,h,n,hn,hi=>⟨fun _=>rfl,fun b h0=>by omega⟩
 | m + 1, [],h,n,hn,hi=>by cases h
 | m + 1,c :: r,h,n,hn,hi=>by
  rw [List.length_cons] at h
  cases n with
  | zero =>
   refine ⟨fun _ => ?_,fun b h0=>by omega⟩
   have ih:=(nextB_full m r (by omega) 0 (by omega) (fun i h1 h2=>by
    have:=hi (i + 1) (by omega) (by omega)
    simpa using this)).1 rfl
   have h0:=hi 0 (by omega) (by omega)
   simp only [List.getElem?_cons_zero,Option.some.injEq] at h0
   simp only [nextB]
   rw [ih,h0]
   rfl
  | succ n =>
   refine ⟨fun e=>by omega,fun b _ hb hne => ?_⟩
   have ih:=nextB_full m r (by omega) n (by omega) (fun i h1 h2=>by
    have:=hi (i + 1) (by omega) (by omega)
    simpa using this)
   simp only [nextB]
   cases n with
   | zero =>
    rw [ih.1 rfl]
    simp at hb
    subst hb
    simp [hne]
   | succ n =>
    simp only [Nat.add_sub_cancel,List.getElem?_cons_succ] at hb
    have:=ih.2 b (by omega) (by simpa using hb) hne
    rw [this]
    simp
theorem behind_long {k : List UInt8} (h : 8 < k.length) : behindW k = []:=by unfold behindW; rw [if_pos h]
theorem behind_short {k : List UInt8} (h : k.length < 8) : behindW k = k ++ [0]:=by
 unfold behindW; rw [if_neg (by omega),nextB_short 8 k h]; rfl
theorem behind_zero {k : List UInt8} (h : k.length = 8) (hi : ∀ i,i < 8 → k[i]? = some 255) : behindW k = []:=by
 unfold behindW; rw [if_neg (by omega),(nextB_full 8 k h 0 (by omega) (fun i _ h2=>hi i h2)).1 rfl]; rfl
theorem behind_at {k : List UInt8} (h : k.length = 8) {n : Nat} (hn : n ≤ 8) (h0 : 0 < n) (hi : ∀ i,n ≤ i → i < 8 → k[i]? = some 255) {b : UInt8} (hb : k[n - 1]? = some b) (hne : b ≠ 255) : behindW k = k.take (n - 1) ++ [b + 1]:=by
 unfold behindW; rw [if_neg (by omega),(nextB_full 8 k h n hn hi).2 b h0 hb hne]; rfl
theorem behind_le (k : List UInt8) : (behindW k).length ≤ 8:=by
 by_cases h8 : 8 < k.length
 ·rw [behind_long h8]; simp
 by_cases h7 : k.length < 8
 ·rw [behind_short h7]; simp; omega
 have key : ∀ (m : Nat) (k s : List UInt8),nextB m k = some s → s.length ≤ m:=by
  intro m
  induction m with
  | zero=>intro k s h; cases h
  | succ m ih =>
   intro k s h
   cases k with
   | nil=>simp [nextB] at h; subst h; simp
   | cons b r =>
    simp only [nextB] at h
    split at h
    ·rename_i s' hs; injection h with h; subst h; have:=ih _ _ hs; simp; omega
    ·split at h
     ·cases h
     ·injection h with h; subst h; simp
 unfold behindW
 rw [if_neg h8]
 cases hn : nextB 8 k with
 | none=>simp
 | some s=>exact key _ _ _ hn
end Trie
end Go.Proofs.YtomnlhbioijfhaaGreatDoor
namespace Go.Proofs.YtomnlhbioijfhaaGreatDoor
open Go.RowKit Go.Instr
attribute [local go_sem] ba_get ByteArray.mk_append_mk
set_option maxHeartbeats 1000000 in
theorem ref11_Behind (w : World) (key : List UInt8) :
  Calls Tryz.prog 40 #[.string ⟨key.toArray⟩] w (Ret w (.string ⟨(Trie.behindW key).toArray⟩)):=by
 have HP : Hid (∀ s w',Trie.behindW key = s → Below w.heap.size w w' → Ret w (.string ⟨(Trie.behindW key).toArray⟩) (Ending.returned (.string ⟨s.toArray⟩)) w'):=Lib.hid (fun s W' a1 a2=>⟨by rw [a1],a2⟩)
 by_cases h8 : 8 < key.length
 ·have HB:=Lib.hid (Trie.behind_long h8)
  generalize Ret w (.string ⟨(Trie.behindW key).toArray⟩) = P at HP ⊢
  have hI : (8 : Int) < key.length:=by omega
  clear h8
  go_enter Tryz.func40,Tryz.ntmps40
  go_wp2_with fail
  exact HP.out [] _ HB.out (Below.refl _ _)
 have hI : ((8 : Int) < key.length) = False:=by simp; omega
 by_cases h7 : key.length < 8
 ·have HB:=Lib.hid (Trie.behind_short h7)
  generalize Ret w (.string ⟨(Trie.behindW key).toArray⟩) = P at HP ⊢
  have hJ : (key.length : Int) < 8:=by omega
  have hsum : key.length + 1 ≤ 9223372036854775807:=by omega
  clear h8 h7
  go_enter Tryz.func40,Tryz.ntmps40
  go_wp2_with fail
  exact HP.out _ _ HB.out (Below.refl _ _)
 have h8' : key.length = 8:=by omega
 have HZ : Hid (∀ n,n ≤ 8 → (∀ i,n ≤ i → i < 8 → key[i]? = some 255) → (n = 0 → Trie.behindW key = []) ∧ (∀ m,n = m + 1 → key.getD m 0 ≠ 255 → Trie.behindW key = key.take m ++ [key.getD m 0 + 1])):=Lib.hid (fun n hn hi=>⟨fun e=>by subst e; exact Trie.behind_zero h8' (fun i h=>hi i (Nat.zero_le _) h),fun m e hne=>by
  subst e
  have hm : m < key.length:=by omega
  have e1 : key.getD m 0 = key[m]:=by rw [List.getD_eq_getElem?_getD,List.getElem?_eq_getElem hm]; rfl
  rw [e1] at hne ⊢
  exact Trie.behind_at h8' hn (Nat.succ_pos _) hi (by rw [Nat.add_sub_cancel,List.getElem?_eq_getElem hm]) hne⟩)
 generalize Ret w (.string ⟨(Trie.behindW key).toArray⟩) = P at HP ⊢
 have hL : (key.length : Int) = 8:=by omega
 have H8:=Lib.hid h8'
 clear h8 h7 h8' hI
 go_enter Tryz.func40,Tryz.ntmps40
 go_wp2_with fail
 refine wp_loop_ghost_k (fun k a wr => ∀ Φ : Act → Prop,(∀ (s1 s2 s4 s5 s6 s7 s8 s9 s10 s11 s12 s13 s14 s15 s16 s17 s18 s19 s20 s21 s22 s23 s24 s25 s26 s27 s28 s29 s30 s31 s32 : Value) (n : Nat) (j : Int),(j = (n : Int) - 1 ∧ n ≤ 8 ∧ k = n ∧ (∀ i,n ≤ i → i < 8 → key[i]? = some 255) ∧ Below w.heap.size w wr) → Φ { tmps:=#[.string ⟨key.toArray⟩,s1,s2,.int .i64 j,s4,s5,s6,s7,s8,s9,s10,s11,s12,s13,s14,s15,s16,s17,s18,s19,s20,s21,s22,s23,s24,s25,s26,s27,s28,s29,s30,s31,s32],defers := [] }) → Φ a) (8) ?_ ?_
 ·refine fun Φ hΦ=>hΦ _ _ _ _ _ _ _ _ _ _ _ _ _ _ _ _ _ _ _ _ _ _ _ _ _ _ _ _ _ _ _ (8) (7) ?_
  exact ⟨rfl,Nat.le_refl _,rfl,fun i h1 h2=>absurd h2 (by omega),Below.refl _ _⟩
 ·intro k1 a1 wr1 hI1 J1 K1 hJ1 hK1
  refine hI1 (fun a=>Code.wp _ _ _ a _) ?_
  clear hI1 a1
  intro s0 s1 s2 s3 s4 s5 s6 s7 s8 s9 s10 s11 s12 s13 s14 s15 s16 s17 s18 s19 s20 s21 s22 s23 s24 s25 s26 s27 s28 s29 s30 n j hrel
  show Code.wp _ _ _ _ _
  obtain ⟨hj,h1,h2,h3,hb⟩:=hrel
  have HH:=Lib.hid h3
  have HBl:=Lib.hid hb
  clear h3 hb
  cases n with
  | zero =>
   have HB:=Lib.hid ((HZ.out 0 (by omega) HH.out).1 rfl)
   clear h1 h2 HZ
   obtain rfl : j = -1:=by omega
   clear hj
   go_wp2_with fail
   exact HP.out [] _ HB.out HBl.out
  | succ m =>
   have hm : m < key.length:=by have:=H8.out; omega
   obtain rfl : j = (m : Int):=by omega
   clear hj
   have hm8 : (m : Int) < 8:=by omega
   have hm0 : (0 : Int) ≤ m:=by omega
   have HX:=fun W=>run_byte key m hm W
   have HN:=Lib.hid ((HZ.out (m + 1) h1 HH.out).2 m rfl)
   have HU : Hid (key.getD m 0 = 255 → ∀ i,m ≤ i → i < 8 → key[i]? = some 255):=Lib.hid (fun e i g1 g2=>by
    by_cases hi : i = m
    ·subst hi
     rw [List.getElem?_eq_getElem hm]
     rw [List.getD_eq_getElem?_getD,List.getElem?_eq_getElem hm] at e
     exact congrArg some e
    ·exact HH.out i (by omega) g2)
   have HT:=fun W=>run_take key m (by omega) W
   have HM:=Lib.hid (And.intro h1 (And.intro h2 hm))
   clear HZ h1 h2 HH
   generalize key.getD m 0 = b at *
   by_cases hb : b = 255
   ·have hbI : ((b.toNat : Int) < 255) = False:=by subst hb; simp
    have HU2:=Lib.hid (HU.out hb)
    clear hb HU HN HT
    go_wp2_with fail
    refine Handed.intro (m) ?_ (hJ1 _ _ _ (fun Φ hΦ=>hΦ _ _ _ _ _ _ _ _ _ _ _ _ _ _ _ _ _ _ _ _ _ _ _ _ _ _ _ _ _ _ _ (m) ((m : Int) - 1) ?_))
    ·have:=HM.out.2.1; omega
    ·exact ⟨rfl,by have:=HM.out.1; omega,rfl,HU2.out,HBl.out⟩
   ·have hn255 : b.toNat ≠ 255:=fun e=>hb (UInt8.toNat_inj.1 e)
    have hlt:=b.toNat_lt
    have hbI : (b.toNat : Int) < 255:=by omega
    have HB:=Lib.hid (HN.out hb)
    have hbw : IntKind.u8.wrap ((b.toNat : Int) + 1) = (b.toNat : Int) + 1:=IntWalk.u8_in _ (by omega)
    have hcv : UInt8.ofNat ((b.toNat : Int) + 1).toNat = b + 1:=by
     apply UInt8.toNat_inj.1
     rw [UInt8.toNat_add]
     simp
    have hq0 : (0 : Int) ≤ (b.toNat : Int) + 1:=by omega
    have hq1 : (b.toNat : Int) + 1 < 256:=by omega
    have hc1:=fun W=>conv1 W ((b.toNat : Int) + 1) hq0 hq1
    have hc2:=fun W=>conv1d W ((b.toNat : Int) + 1) hq0 hq1
    rw [hcv] at hc1 hc2
    have hjs : (key.take m).length + 1 ≤ 9223372036854775807:=by rw [List.length_take]; omega
    clear hb HU HN hn255 hcv hlt hq0 hq1
    generalize key.take m = pre at *
    go_wp2_with fail
    go_region
    all_goals go_wp2
    all_goals exact HP.out _ _ HB.out (HBl.out.nxt (by go_grown))
set_option maxHeartbeats 1000000 in
theorem ref11_In (w : World) (key f e : List UInt8) :
  Calls Tryz.prog 87 #[.string ⟨key.toArray⟩,.string ⟨f.toArray⟩,.string ⟨e.toArray⟩] w (Ret w (.bool (Trie.inK f e key))):=by
 have HP : Hid (∀ b,Trie.inK f e key = b → Ret w (.bool (Trie.inK f e key)) (.returned (.bool b)) w):=Lib.hid (fun b h=>⟨by rw [h],Below.refl _ _⟩)
 generalize Ret w (.bool (Trie.inK f e key)) = P at HP ⊢
 cases k4 : Op.bytesLess key f with
 | true =>
  have HB : Hid (Trie.inK f e key = false):=Lib.hid (by simp [Trie.inK,k4])
  go_enter Tryz.func87,Tryz.ntmps87
  go_wp2_with fail
  exact HP.out _ HB.out
 | false =>
  by_cases k5 : e = []
  ·subst k5
   have HB : Hid (Trie.inK f [] key = true):=Lib.hid (by simp [Trie.inK,k4])
   go_enter Tryz.func87,Tryz.ntmps87
   go_wp2_with fail
   exact HP.out _ HB.out
  ·have ne1 : (e.toArray = #[]) = False:=by simp [k5]
   have ne2 : e.isEmpty = false:=by simp [k5]
   cases k6 : Op.bytesLess key e with
   | true =>
    have HB : Hid (Trie.inK f e key = true):=Lib.hid (by simp [Trie.inK,k4,k6])
    clear k5
    go_enter Tryz.func87,Tryz.ntmps87
    go_wp2_with fail
    exact HP.out _ HB.out
   | false =>
    have HB : Hid (Trie.inK f e key = false):=Lib.hid (by simp [Trie.inK,k4,k6,k5])
    clear k5
    go_enter Tryz.func87,Tryz.ntmps87
    go_wp2_with fail
    exact HP.out _ HB.out
theorem ref14_UpTo (w : World) (nx e : List UInt8) :
  Calls Tryz.prog 42 #[.string ⟨nx.toArray⟩,.string ⟨e.toArray⟩] w (Ret w (.string ⟨(Trie.upToW nx e).toArray⟩)):=by
 have HP : Hid (∀ s,Trie.upToW nx e = s → Ret w (.string ⟨(Trie.upToW nx e).toArray⟩) (.returned (.string ⟨s.toArray⟩)) w):=Lib.hid (fun b h=>⟨by rw [h],Below.refl _ _⟩)
 generalize Ret w (.string ⟨(Trie.upToW nx e).toArray⟩) = P at HP ⊢
 by_cases hn : nx = []
 ·subst hn
  have HE : Hid (Trie.upToW [] e = e):=Lib.hid rfl
  go_enter Tryz.func42,Tryz.ntmps42
  go_wp2_with fail
  exact HP.out _ HE.out
 ·have ne1 : (nx.toArray = #[]) = False:=by simp [hn]
  have ne2 : nx.isEmpty = false:=by simp [hn]
  have HE : Hid (Trie.upToW nx e = nx):=Lib.hid (by unfold Trie.upToW; rw [if_pos hn])
  clear hn
  go_enter Tryz.func42,Tryz.ntmps42
  go_wp2_with fail
  exact HP.out _ HE.out
set_option maxRecDepth 100000 in
set_option maxHeartbeats 1000000 in
theorem ref10_In (w : World) (pl from_ end_ : List UInt8) (hp : pl.length ≤ 1000) (h1 : from_.length ≤ 2000) (h2 : end_.length ≤ 2000) :
  Calls Tryz.prog 82 #[.string ⟨pl.toArray⟩,.string ⟨from_.toArray⟩,.string ⟨end_.toArray⟩] w (Ret w (.bool (coverW (Nib.of from_) (Nib.of end_) end_ pl))):=by
 have HP : Hid (∀ b w',coverW (Nib.of from_) (Nib.of end_) end_ pl = b → Below w.heap.size w w' → Ret w (.bool (coverW (Nib.of from_) (Nib.of end_) end_ pl)) (.returned (.bool b)) w'):=Lib.hid (fun b w' e h=>⟨by rw [e],h⟩)
 generalize Ret w (.bool (coverW (Nib.of from_) (Nib.of end_) end_ pl)) = P at HP ⊢
 have HX : Hid (coverW (Nib.of from_) (Nib.of end_) end_ pl = (decide (0 ≤ Nib.side pl (Nib.of from_)) && (end_.isEmpty || decide (Nib.side pl (Nib.of end_) ≤ 0)))):=Lib.hid rfl
 generalize coverW (Nib.of from_) (Nib.of end_) end_ pl = X at *
 have HO1:=Lib.hid (fun W=>refnib_Of from_ W h1)
 have HO2:=Lib.hid (fun W=>refnib_Of end_ W h2)
 have HS1:=Lib.hid (fun W=>refnib_Side pl (Nib.of from_) W (by omega) (by rw [Nib.of_length]; omega))
 have HS2:=Lib.hid (fun W=>refnib_Side pl (Nib.of end_) W (by omega) (by rw [Nib.of_length]; omega))
 generalize Nib.of from_ = low at *
 generalize Nib.of end_ = high at *
 generalize Nib.side pl low = s1 at *
 generalize Nib.side pl high = s2 at *
 go_enter Tryz.func82,Tryz.ntmps82
 go_wp2_with fail
 refine (HO1.out _).mono ?_
 rintro e w1 ⟨rfl,hb1⟩
 have HB1:=Lib.hid hb1
 clear hb1
 go_wp2_with fail
 refine (HS1.out _).mono ?_
 rintro e w2 ⟨rfl,hb2⟩
 have HB2:=Lib.hid (HB1.out.nxt hb2)
 clear hb2
 by_cases hs1 : s1 < 0
 ·have HE : Hid (X = false):=Lib.hid (by rw [HX.out,decide_eq_false (by omega)]; rfl)
  go_wp2_with fail
  exact HP.out _ _ HE.out HB2.out
 ·have hs1I : (s1 < 0) = False:=by simp; omega
  have HE : Hid (X = (end_.isEmpty || decide (s2 ≤ 0))):=Lib.hid (by rw [HX.out,decide_eq_true (by omega),Bool.true_and])
  clear HX hs1
  by_cases he : end_ = []
  ·subst he
   go_wp2_with fail
   exact HP.out _ _ HE.out HB2.out
  ·have ne1 : (end_.toArray = #[]) = False:=by simp [he]
   have ne2 : end_.isEmpty = false:=by simp [he]
   rw [ne2,Bool.false_or] at HE
   clear he
   go_wp2_with fail
   refine (HO2.out _).mono ?_
   rintro e w3 ⟨rfl,hb3⟩
   have HB3:=Lib.hid (HB2.out.nxt hb3)
   clear hb3
   go_wp2_with fail
   refine (HS2.out _).mono ?_
   rintro e w4 ⟨rfl,hb4⟩
   have HB4:=Lib.hid (HB3.out.nxt hb4)
   clear hb4
   by_cases hs2 : s2 < 1
   ·have hs2I : (s2 < 1) = True:=by simp; omega
    rw [decide_eq_true (show s2 ≤ 0 by omega)] at HE
    clear hs2
    go_wp2_with fail
    exact HP.out _ _ HE.out HB4.out
   ·have hs2I : (s2 < 1) = False:=by simp; omega
    rw [decide_eq_false (show ¬ s2 ≤ 0 by omega)] at HE
    clear hs2
    go_wp2_with fail
    exact HP.out _ _ HE.out HB4.out
end Go.Proofs.YtomnlhbioijfhaaGreatDoor
