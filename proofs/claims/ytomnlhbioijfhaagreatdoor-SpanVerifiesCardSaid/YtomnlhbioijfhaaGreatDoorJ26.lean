import Derived.Test.YtomnlhbioijfhaaGreatDoorJ25
import Derived.Test.YtomnlhbioijfhaaGreatDoorJ23
import Derived.Test.YtomnlhbioijfhaaGreatDoorJ08
import Derived.Test.YtomnlhbioijfhaaGreatDoorJ07
import Derived.Test.YtomnlhbioijfhaaGreatDoorJ01
import Derived.Test.YtomnlhbioijfhaaGreatDoorJ11
set_option linter.unusedSimpArgs false
set_option linter.unusedVariables false
namespace Go.Proofs.YtomnlhbioijfhaaGreatDoor
open Go.RowKit Go.Instr
attribute [local go_sem] ByteArray.mk_append_mk
theorem ref04_Tagged (w : World) (tag : Nat) (h2 : tag ≤ 255) (l : List UInt8) (hl : l.length ≤ 999999) :
  Calls Tryz.prog 83 #[.int .i64 (tag : Int),.string ⟨l.toArray⟩] w fun e w'=>e = .returned (.string ⟨(shaW (UInt8.ofNat tag :: l)).toArray⟩) ∧ Below w.heap.size w w':=by
 have HS : Hid (∀ W,Calls Tryz.prog 118 #[.string ⟨(UInt8.ofNat tag :: l).toArray⟩] W fun e w'=>e = .returned (.string ⟨(shaW (UInt8.ofNat tag :: l)).toArray⟩) ∧ Below W.heap.size W w'):=Lib.hid (fun W=>rsha_Sum (UInt8.ofNat tag :: l) (by simp; omega) W)
 have HP : Hid (∀ S w',shaW (UInt8.ofNat tag :: l) = S → Below w.heap.size w w' → (fun e w'=>e = Ending.returned (.string ⟨(shaW (UInt8.ofNat tag :: l)).toArray⟩) ∧ Below w.heap.size w w') (Ending.returned (.string ⟨S.toArray⟩)) w'):=Lib.hid (fun S W' e a2=>⟨by rw [e],a2⟩)
 generalize (fun e w'=>e = Ending.returned (.string ⟨(shaW (UInt8.ofNat tag :: l)).toArray⟩) ∧ Below w.heap.size w w') = P at HP ⊢
 have hw : IntKind.u8.wrap (tag : Int) = (tag : Int):=IntWalk.u8_in _ (by omega)
 have cv:=conv1 w (tag : Int) (by omega) (by omega)
 rw [Int.toNat_natCast] at cv
 have hlI : (l.length : Int) ≤ 999999:=by omega
 go_enter Tryz.func83,Tryz.ntmps83
 go_wp2_with fail
 clear cv
 refine (HS.out _).mono ?_
 rintro e w1 ⟨rfl,hb1⟩
 have HQ:=Lib.hid (HP.out _ w1 rfl (Below.nxt (by go_grown) hb1))
 clear hb1 HS HP
 generalize shaW (UInt8.ofNat tag :: l) = S at *
 go_wp2_with fail
 exact HQ.out
end Go.Proofs.YtomnlhbioijfhaaGreatDoor
namespace Go.Proofs.YtomnlhbioijfhaaGreatDoor
open Go.RowKit
attribute [local go_sem] ba_get ByteArray.mk_append_mk ByteArray.extract_mk
theorem refnib_Unpack_nil (w : World) :
  Calls Tryz.prog 121 #[.string ⟨#[]⟩] w fun e w'=>e = .returned (.tuple #[.string ⟨#[]⟩,.bool false,.int .i64 3]) ∧ Below w.heap.size w w':=by
 go_enter Tryz.func121,Tryz.ntmps121
 go_wp2
 go_ret3
 exact ⟨rfl,Below.refl _ _⟩
set_option maxHeartbeats 400000 in
theorem refnib_Unpack_cons (b : UInt8) (r : List UInt8) (w : World) (hs : r.length ≤ 1999) :
  Calls Tryz.prog 121 #[.string ⟨(b :: r).toArray⟩] w fun e w'=>e = .returned (.tuple #[.string ⟨(Nib.unpack (b :: r)).1.toArray⟩,.bool (Nib.unpack (b :: r)).2.1,.int .i64 (Nib.unpack (b :: r)).2.2]) ∧ Below w.heap.size w w':=by
 have hlt:=b.toNat_lt
 rw [Nib.unpack_cons]
 have ho : Nib.of (b :: r) = b / 16 :: b % 16 :: Nib.of r:=by simp [Nib.of]
 obtain ⟨x,hx⟩ : ∃ x,x = b / 16:=⟨_,rfl⟩
 obtain ⟨y,hy⟩ : ∃ y,y = b % 16:=⟨_,rfl⟩
 have hxn : x.toNat = b.toNat / 16:=by rw [hx]; simp
 have hyn : y.toNat = b.toNat % 16:=by rw [hy]; simp
 rw [← hx,← hy] at ho
 have HO:=Lib.hid ho
 have HL:=Nib.of_length r
 have HL2 : (Nib.of r).length ≤ 4000:=by omega
 rw [← hxn,← hyn,← hy]
 clear hx hy ho HL
 have hx16 : x.toNat < 16:=by omega
 clear hxn hyn hlt
 by_cases h1 : 3 < x.toNat
 ·have hk : 3 < (x.toNat : Int):=by omega
  rw [if_pos (.inl h1)]
  clear h1
  go_enter Tryz.func121,Tryz.ntmps121
  go_wp2_with fail
  refine (refnib_Of (b :: r) _ (by simp; omega)).mono ?_
  rintro e w1 ⟨rfl,hb⟩
  rw [HO.out]
  go_wp2
  go_ret3
  exact ⟨rfl,hb⟩
 ·have hk : ¬ 3 < (x.toNat : Int):=by omega
  have hge : decide (2 ≤ (x.toNat : Int)) = decide (2 ≤ x.toNat):=by rw [decide_eq_decide]; omega
  have HG:=Lib.hid hge
  clear hge
  by_cases h2 : x.toNat % 2 = 1
  ·rw [if_neg (by omega),if_pos h2]
   have ho1 : ((x.toNat : Int) % 2 == 0) = false:=by rw [beq_eq_false_iff_ne]; omega
   have ho2 : ((x.toNat : Int) % 2 == 1) = true:=by rw [beq_iff_eq]; omega
   clear h1 h2
   go_enter Tryz.func121,Tryz.ntmps121
   go_wp2_with fail
   refine (refnib_Of (b :: r) _ (by simp; omega)).mono ?_
   rintro e w1 ⟨rfl,hb⟩
   rw [HO.out]
   go_wp2
   go_ret3
   rw [← HG.out]
   exact ⟨rfl,hb⟩
  ·have ho1 : ((x.toNat : Int) % 2 == 0) = true:=by rw [beq_iff_eq]; omega
   have ho2 : ((x.toNat : Int) % 2 == 1) = false:=by rw [beq_eq_false_iff_ne]; omega
   by_cases h3 : y.toNat = 0
   ·rw [if_neg (by omega),if_neg h2]
    have hz : ((y.toNat : Int) != 0) = false:=by simp; omega
    clear h1 h2 h3
    go_enter Tryz.func121,Tryz.ntmps121
    go_wp2_with fail
    refine (refnib_Of (b :: r) _ (by simp; omega)).mono ?_
    rintro e w1 ⟨rfl,hb⟩
    rw [HO.out]
    go_wp2
    go_ret3
    rw [← HG.out]
    exact ⟨rfl,hb⟩
   ·rw [if_pos (.inr ⟨by omega,h3⟩)]
    have hz : ((y.toNat : Int) != 0) = true:=by rw [bne_iff_ne]; omega
    clear h1 h2 h3
    go_enter Tryz.func121,Tryz.ntmps121
    go_wp2_with fail
    refine (refnib_Of (b :: r) _ (by simp; omega)).mono ?_
    rintro e w1 ⟨rfl,hb⟩
    rw [HO.out]
    go_wp2
    go_ret3
    exact ⟨rfl,hb⟩
theorem refnib_Unpack (s : List UInt8) (w : World) (hs : s.length ≤ 2000) :
  Calls Tryz.prog 121 #[.string ⟨s.toArray⟩] w fun e w'=>e = .returned (.tuple #[.string ⟨(Nib.unpack s).1.toArray⟩,.bool (Nib.unpack s).2.1,.int .i64 (Nib.unpack s).2.2]) ∧ Below w.heap.size w w':=by
 cases s with
 | nil=>exact refnib_Unpack_nil w
 | cons b r=>exact refnib_Unpack_cons b r w (by simp at hs; omega)
end Go.Proofs.YtomnlhbioijfhaaGreatDoor
namespace Go.Proofs.YtomnlhbioijfhaaGreatDoor
open Go.RowKit Go.Instr
attribute [local go_sem] ba_get ByteArray.mk_append_mk
set_option maxRecDepth 100000 in
set_option maxHeartbeats 1000000 in
theorem take_loop (h : UInt8) (r : List UInt8) (K : Nat) (hk : K ≤ r.length) (hk8 : K ≤ 8) (hv : valBE (r.take K) < 9223372036854775808) (w0 : World)
  (Q : Exit → Act → World → Prop)
  (hQ : ∀ (s1 s2 s3 s4 s7 s8 s9 s10 s11 s12 s13 s14 s15 s16 s17 s18 s19 s20 s21 s22 s23 s24 s25 s26 s27 s28 s29 s30 s31 s32 s33 s34 s35 s36 s37 s38 s39 s40 s41 s42 s43 s44 s45 s46 s47 s48 s49 s50 s51 s52 : Value),Q (.exit 0) { tmps:=#[.string ⟨(h :: r).toArray⟩,s1,s2,s3,s4,.int .i64 (K : Int),.int .i64 (valBE (r.take K) : Int),s7,s8,s9,s10,s11,s12,s13,s14,s15,s16,s17,s18,s19,s20,s21,s22,s23,s24,s25,s26,s27,s28,s29,s30,s31,s32,s33,s34,s35,s36,s37,s38,s39,s40,s41,s42,s43,s44,s45,s46,s47,s48,s49,s50,s51,s52],defers := [] } w0)
  (s1 s2 s3 s4 s8 s9 s10 s11 s12 s13 s14 s15 s16 s17 s18 s19 s20 s21 s22 s23 s24 s25 s26 s27 s28 s29 s30 s31 s32 s33 s34 s35 s36 s37 s38 s39 s40 s41 s42 s43 s44 s45 s46 s47 s48 s49 s50 s51 s52 : Value) :
  Code.wp Tryz.prog (.loop (loopAt Tryz.f104 0)) Q { tmps:=#[.string ⟨(h :: r).toArray⟩,s1,s2,s3,s4,.int .i64 (K : Int),.int .i64 0,.int .i64 1,s8,s9,s10,s11,s12,s13,s14,s15,s16,s17,s18,s19,s20,s21,s22,s23,s24,s25,s26,s27,s28,s29,s30,s31,s32,s33,s34,s35,s36,s37,s38,s39,s40,s41,s42,s43,s44,s45,s46,s47,s48,s49,s50,s51,s52],defers := [] } w0:=by
 have HQ:=Lib.hid hQ
 clear hQ
 refine wp_loop_ghost_k (fun k a wr => ∀ Φ : Act → Prop,(∀ (s1 s2 s3 s4 s8 s9 s10 s11 s12 s13 s14 s15 s16 s17 s18 s19 s20 s21 s22 s23 s24 s25 s26 s27 s28 s29 s30 s31 s32 s33 s34 s35 s36 s37 s38 s39 s40 s41 s42 s43 s44 s45 s46 s47 s48 s49 s50 s51 s52 : Value) (i n : Nat),(i + k = K ∧ valBE (r.take i) = n ∧ wr = w0) → Φ { tmps:=#[.string ⟨(h :: r).toArray⟩,s1,s2,s3,s4,.int .i64 (K : Int),.int .i64 (n : Int),.int .i64 ((i + 1 : Nat) : Int),s8,s9,s10,s11,s12,s13,s14,s15,s16,s17,s18,s19,s20,s21,s22,s23,s24,s25,s26,s27,s28,s29,s30,s31,s32,s33,s34,s35,s36,s37,s38,s39,s40,s41,s42,s43,s44,s45,s46,s47,s48,s49,s50,s51,s52],defers := [] }) → Φ a) (K) ?_ ?_
 ·refine fun Φ hΦ=>hΦ _ _ _ _ _ _ _ _ _ _ _ _ _ _ _ _ _ _ _ _ _ _ _ _ _ _ _ _ _ _ _ _ _ _ _ _ _ _ _ _ _ _ _ _ _ _ _ _ _ (0) (0) ?_
  exact ⟨by omega,by simp [valBE],rfl⟩
 ·intro k1 a1 wr1 hI1 J1 K1 hJ1 hK1
  refine hI1 (fun a=>Code.wp _ _ _ a _) ?_
  clear hI1 a1
  intro s0 s1 s2 s3 s4 s5 s6 s7 s8 s9 s10 s11 s12 s13 s14 s15 s16 s17 s18 s19 s20 s21 s22 s23 s24 s25 s26 s27 s28 s29 s30 s31 s32 s33 s34 s35 s36 s37 s38 s39 s40 s41 s42 s43 s44 s45 s46 s47 s48 i n hrel
  show Code.wp _ _ _ _ _
  conv=>arg 2; whnf
  obtain ⟨h1,h2,rfl⟩:=hrel
  by_cases hi : i < K
  ·have hir : i < r.length:=by omega
   have h3:=valBE_take r i hir
   have h4 : valBE (r.take (i + 1)) ≤ valBE (r.take K):=by
    have:=valBE_mono (r.take K) (i + 1)
    rwa [List.take_take,show min (i + 1) K = i + 1 by omega] at this
   have hx:=(r.getD i 0).toNat_lt
   have HN : Hid (valBE (r.take (i + 1)) = n * 256 + (r.getD i 0).toNat):=Lib.hid (by rw [h3,h2])
   have hsum : n * 256 + (r.getD i 0).toNat < 9223372036854775808:=by rw [h2] at h3; omega
   have hix:=fun W=>run_byte (h :: r) (i + 1) (by simp; omega) W
   rw [show (h :: r).getD (i + 1) 0 = r.getD i 0 by simp [List.getD_eq_getElem?_getD]] at hix
   have HI:=Lib.hid h1
   have hi1 : ((i + 1 : Nat) : Int) ≤ K:=by omega
   have hmul : wrap64 ((n : Int) * 256) = (n : Int) * 256:=IntWalk.wrap64_in _ (by omega)
   have hadd : wrap64 ((n : Int) * 256 + ((r.getD i 0).toNat : Int)) = ((n * 256 + (r.getD i 0).toNat : Nat) : Int):=by rw [IntWalk.wrap64_in _ (by omega)]; omega
   have hinc : wrap64 (((i + 1 : Nat) : Int) + 1) = ((i + 1 + 1 : Nat) : Int):=by rw [IntWalk.wrap64_in _ (by omega)]; omega
   clear h1 h2 h3 h4 hir hsum
   generalize r.getD i 0 = x at *
   generalize hii : i + 1 = ii at *
   go_wp2_with fail
   have q1 : ((n : Int) * 256 + (x.toNat : Int)) = ((n * 256 + x.toNat : Nat) : Int):=by omega
   have q2 : ((ii : Int) + 1) = ((ii + 1 : Nat) : Int):=by omega
   rw [q1,q2]
   subst hii
   refine Handed.intro (K - (i + 1)) ?_ (hJ1 _ _ _ (fun Φ hΦ=>hΦ _ _ _ _ _ _ _ _ _ _ _ _ _ _ _ _ _ _ _ _ _ _ _ _ _ _ _ _ _ _ _ _ _ _ _ _ _ _ _ _ _ _ _ _ _ _ _ _ _ (i + 1) (n * 256 + x.toNat) ?_))
   ·have:=HI.out
    show K - (i + 1) < k1
    omega
   ·have:=HI.out
    exact ⟨by omega,HN.out,rfl⟩
  ·have e : i = K:=by omega
   subst e
   subst h2
   have hi2 : (((i + 1 : Nat) : Int) ≤ (i : Int)) = False:=by simp; omega
   generalize hii : i + 1 = ii at *
   clear h1 hi
   go_wp2_with fail
   exact HQ.out _ _ _ _ _ _ _ _ _ _ _ _ _ _ _ _ _ _ _ _ _ _ _ _ _ _ _ _ _ _ _ _ _ _ _ _ _ _ _ _ _ _ _ _ _ _ _ _ _ _
def TakeEnd (w : World) (r : Nat × List UInt8 × Nat) (e : Ending) (w' : World) : Prop:=e = .returned (.tuple #[.int .i64 (r.1 : Int),.string ⟨r.2.1.toArray⟩,.int .i64 (r.2.2 : Int)]) ∧ Below w.heap.size w w'
set_option maxRecDepth 100000 in
set_option maxHeartbeats 1000000 in
theorem ref02_take (s : List UInt8) (hs : s.length ≤ 1000000) (w : World) :
  Calls Tryz.prog 104 #[.string ⟨s.toArray⟩] w (TakeEnd w (numT s)):=by
 have HP : Hid (∀ (n : Nat) (rest : List UInt8) (c : Nat) w',numT s = (n,rest,c) → Below w.heap.size w w' → TakeEnd w (numT s) (.returned (.tuple #[.int .i64 (n : Int),.string ⟨rest.toArray⟩,.int .i64 (c : Int)])) w'):=Lib.hid (fun n rest c w' e h=>by rw [e]; exact ⟨rfl,h⟩)
 generalize TakeEnd w (numT s) = P at HP ⊢
 cases s with
 | nil =>
  have HE : Hid (numT [] = (0, [],20)):=Lib.hid rfl
  go_enter Tryz.func104,Tryz.ntmps104
  go_wp2
  exact HP.out 0 [] 20 _ HE.out (Below.refl _ _)
 | cons h r =>
  have hE:=numT_cons h r
  have hrl : r.length + 1 ≤ 1000000:=by simpa using hs
  have hix:=fun W=>run_byte (h :: r) 0 (by simp) W
  simp only [List.getD_cons_zero] at hix
  have h256:=h.toNat_lt
  clear hs
  by_cases h8 : 8 < h.toNat
  ·have HE : Hid (numT (h :: r) = (0, [],3)):=Lib.hid (by rw [hE,if_pos h8])
   have h8I : (8 : Int) < (h.toNat : Int):=by omega
   clear hE h8
   go_enter Tryz.func104,Tryz.ntmps104
   go_wp2
   exact HP.out 0 [] 3 _ HE.out (Below.refl _ _)
  have h8I : ((8 : Int) < (h.toNat : Int)) = False:=by simp; omega
  rw [if_neg h8] at hE
  have hadd : wrap64 ((h.toNat : Int) + 1) = (h.toNat : Int) + 1:=IntWalk.wrap64_in _ (by omega)
  by_cases hlt : r.length < h.toNat
  ·have HE : Hid (numT (h :: r) = (0, [],20)):=Lib.hid (by rw [hE,if_pos hlt])
   have hlI : ((r.length : Int) + 1 < (h.toNat : Int) + 1):=by omega
   have hlI2 : ((r.length : Int) < (h.toNat : Int)):=by omega
   clear hE h8 hlt
   go_enter Tryz.func104,Tryz.ntmps104
   go_wp2
   exact HP.out 0 [] 20 _ HE.out (Below.refl _ _)
  have hle : h.toNat ≤ r.length:=by omega
  have hlI : ((r.length : Int) + 1 < (h.toNat : Int) + 1) = False:=by simp; omega
  have hlI2 : ((r.length : Int) < (h.toNat : Int)) = False:=by simp; omega
  rw [if_neg hlt] at hE
  by_cases hz : h.toNat = 0
  ·have HE : Hid (numT (h :: r) = (valBE (r.take h.toNat),r.drop h.toNat,0)):=Lib.hid (by rw [hE,if_neg (by omega)])
   have hz1 : ((0 : Int) < (h.toNat : Int)) = False:=by simp; omega
   have hz2 : ((h.toNat : Int) == 8) = false:=by rw [beq_eq_false_iff_ne]; omega
   have hz3 : (0 < h.toNat) = False:=by simp; omega
   clear hE hlt hz
   have HRd:=Lib.hid (fun W=>run_drop (h :: r) (h.toNat + 1) (by simp; omega) W)
   have hrd:=HRd.out
   rw [show ((h.toNat + 1 : Nat) : Int) = (h.toNat : Int) + 1 by omega,List.drop_succ_cons] at hrd
   have HTk:=Lib.hid (numT_lt (s:=h :: r) (n:=valBE (r.take h.toNat)) (r:=r.drop h.toNat) HE.out)
   have HLe:=Lib.hid hle
   have HK8:=Lib.hid (show h.toNat ≤ 8 by omega)
   clear HRd
   go_enter Tryz.func104,Tryz.ntmps104
   go_wp2_with fail
   refine take_loop h r h.toNat HLe.out HK8.out HTk.out _ _ ?_ _ _ _ _ _ _ _ _ _ _ _ _ _ _ _ _ _ _ _ _ _ _ _ _ _ _ _ _ _ _ _ _ _ _ _ _ _ _ _ _ _ _ _ _ _ _ _ _ _
   intro s1 s2 s3 s4 s7 s8 s9 s10 s11 s12 s13 s14 s15 s16 s17 s18 s19 s20 s21 s22 s23 s24 s25 s26 s27 s28 s29 s30 s31 s32 s33 s34 s35 s36 s37 s38 s39 s40 s41 s42 s43 s44 s45 s46 s47 s48 s49 s50 s51 s52
   have HF:=Lib.hid (fun W=>HP.out _ _ 0 W HE.out)
   clear HE HTk
   generalize valBE _ = v at HF ⊢
   go_wp2
   go_quiet (fail)
   go_wp2
   exact HF.out _ ⟨rfl,rfl,rfl,Nat.le_refl _,fun _ _=>rfl⟩
  have hz1 : (0 : Int) < (h.toNat : Int):=by omega
  have hjx : ∀ W,(Instr.index 9 (.string ⟨(h :: r).toArray⟩) (.int .i64 1)).run Tryz.prog W = .ok (.int .u8 ((r.getD 0 0).toNat : Int)) W:=fun W=>by
   have:=run_byte (h :: r) 1 (by simp; omega) W
   rw [show (h :: r).getD 1 0 = r.getD 0 0 by simp [List.getD_eq_getElem?_getD]] at this
   exact this
  have hx256:=(r.getD 0 0).toNat_lt
  obtain ⟨x,hx⟩ : ∃ x,r.getD 0 0 = x:=⟨_,rfl⟩
  rw [hx] at hE hjx hx256
  clear hx
  by_cases hx0 : x = 0
  ·have HE : Hid (numT (h :: r) = (0, [],3)):=Lib.hid (by rw [hE,if_pos (.inl ⟨by omega,hx0⟩)])
   have hxz : ((x.toNat : Int) == 0) = true:=by simp [hx0]
   clear hE h8 hlt hx0
   go_enter Tryz.func104,Tryz.ntmps104
   go_wp2
   exact HP.out 0 [] 3 _ HE.out (Below.refl _ _)
  have hxz : ((x.toNat : Int) == 0) = false:=by
   simp; intro e; exact hx0 (UInt8.toNat_inj.1 e)
  by_cases h88 : h.toNat = 8
  ·have h88I : ((h.toNat : Int) == 8) = true:=by rw [beq_iff_eq]; omega
   by_cases h128 : 128 ≤ x.toNat
   ·have HE : Hid (numT (h :: r) = (0, [],3)):=Lib.hid (by rw [hE,if_pos (.inr ⟨h88,h128⟩)])
    have h9 : (127 : Int) < x.toNat:=by omega
    clear hE h8 hlt hx0 h128 h88
    go_enter Tryz.func104,Tryz.ntmps104
    go_wp2
    exact HP.out 0 [] 3 _ HE.out (Below.refl _ _)
   ·have HE : Hid (numT (h :: r) = (valBE (r.take h.toNat),r.drop h.toNat,0)):=Lib.hid (by rw [hE,if_neg]; rintro (⟨_,q⟩ | ⟨_,q⟩); exact hx0 q; exact h128 q)
    have h9 : ((127 : Int) < x.toNat) = False:=by simp; omega
    clear hE hlt hx0 h128 h88
    have HRd:=Lib.hid (fun W=>run_drop (h :: r) (h.toNat + 1) (by simp; omega) W)
    have hrd:=HRd.out
    rw [show ((h.toNat + 1 : Nat) : Int) = (h.toNat : Int) + 1 by omega,List.drop_succ_cons] at hrd
    have HTk:=Lib.hid (numT_lt (s:=h :: r) (n:=valBE (r.take h.toNat)) (r:=r.drop h.toNat) HE.out)
    have HLe:=Lib.hid hle
    have HK8:=Lib.hid (show h.toNat ≤ 8 by omega)
    clear HRd
    go_enter Tryz.func104,Tryz.ntmps104
    go_wp2_with fail
    refine take_loop h r h.toNat HLe.out HK8.out HTk.out _ _ ?_ _ _ _ _ _ _ _ _ _ _ _ _ _ _ _ _ _ _ _ _ _ _ _ _ _ _ _ _ _ _ _ _ _ _ _ _ _ _ _ _ _ _ _ _ _ _ _ _ _
    intro s1 s2 s3 s4 s7 s8 s9 s10 s11 s12 s13 s14 s15 s16 s17 s18 s19 s20 s21 s22 s23 s24 s25 s26 s27 s28 s29 s30 s31 s32 s33 s34 s35 s36 s37 s38 s39 s40 s41 s42 s43 s44 s45 s46 s47 s48 s49 s50 s51 s52
    have HF:=Lib.hid (fun W=>HP.out _ _ 0 W HE.out)
    clear HE HTk
    generalize valBE _ = v at HF ⊢
    go_wp2
    go_quiet (fail)
    go_wp2
    exact HF.out _ ⟨rfl,rfl,rfl,Nat.le_refl _,fun _ _=>rfl⟩
  ·have h88I : ((h.toNat : Int) == 8) = false:=by rw [beq_eq_false_iff_ne]; omega
   have HE : Hid (numT (h :: r) = (valBE (r.take h.toNat),r.drop h.toNat,0)):=Lib.hid (by rw [hE,if_neg]; rintro (⟨_,q⟩ | ⟨q,_⟩); exact hx0 q; exact h88 q)
   clear hE hlt hx0
   have HRd:=Lib.hid (fun W=>run_drop (h :: r) (h.toNat + 1) (by simp; omega) W)
   have hrd:=HRd.out
   rw [show ((h.toNat + 1 : Nat) : Int) = (h.toNat : Int) + 1 by omega,List.drop_succ_cons] at hrd
   have HTk:=Lib.hid (numT_lt (s:=h :: r) (n:=valBE (r.take h.toNat)) (r:=r.drop h.toNat) HE.out)
   have HLe:=Lib.hid hle
   have HK8:=Lib.hid (show h.toNat ≤ 8 by omega)
   clear HRd
   go_enter Tryz.func104,Tryz.ntmps104
   go_wp2_with fail
   refine take_loop h r h.toNat HLe.out HK8.out HTk.out _ _ ?_ _ _ _ _ _ _ _ _ _ _ _ _ _ _ _ _ _ _ _ _ _ _ _ _ _ _ _ _ _ _ _ _ _ _ _ _ _ _ _ _ _ _ _ _ _ _ _ _ _
   intro s1 s2 s3 s4 s7 s8 s9 s10 s11 s12 s13 s14 s15 s16 s17 s18 s19 s20 s21 s22 s23 s24 s25 s26 s27 s28 s29 s30 s31 s32 s33 s34 s35 s36 s37 s38 s39 s40 s41 s42 s43 s44 s45 s46 s47 s48 s49 s50 s51 s52
   have HF:=Lib.hid (fun W=>HP.out _ _ 0 W HE.out)
   clear HE HTk
   generalize valBE _ = v at HF ⊢
   go_wp2
   go_quiet (fail)
   go_wp2
   exact HF.out _ ⟨rfl,rfl,rfl,Nat.le_refl _,fun _ _=>rfl⟩
def RTextEnd (w : World) (r : List UInt8 × List UInt8 × Nat) (e : Ending) (w' : World) : Prop:=e = .returned (.tuple #[.string ⟨r.1.toArray⟩,.string ⟨r.2.1.toArray⟩,.int .i64 (r.2.2 : Int)]) ∧ Below w.heap.size w w'
set_option maxRecDepth 100000 in
set_option maxHeartbeats 1000000 in
theorem ref02_text (s : List UInt8) (hs : s.length ≤ 1000000) (most : Nat) (hm : most ≤ 1000000) (w : World) :
  Calls Tryz.prog 148 #[.string ⟨s.toArray⟩,.int .i64 (most : Int)] w (RTextEnd w (txtT s most)):=by
 have HP : Hid (∀ (t rest : List UInt8) (c : Nat) w',txtT s most = (t,rest,c) → Below w.heap.size w w' → RTextEnd w (txtT s most) (.returned (.tuple #[.string ⟨t.toArray⟩,.string ⟨rest.toArray⟩,.int .i64 (c : Int)])) w'):=Lib.hid (fun n rest c w' e h=>by rw [e]; exact ⟨rfl,h⟩)
 have HX : Hid (txtT s most = if (numT s).2.2 ≠ 0 then ([], [],(numT s).2.2) else if most < (numT s).1 then ([], [],2) else if (numT s).2.1.length < (numT s).1 then ([], [],20)
  else ((numT s).2.1.take (numT s).1,(numT s).2.1.drop (numT s).1,0)):=Lib.hid rfl
 have HN:=Lib.hid (ref02_take s hs w)
 generalize RTextEnd w (txtT s most) = P at HP ⊢
 generalize txtT s most = X at HP HX
 generalize numT s = Y at *
 obtain ⟨n,rest,c⟩:=Y
 simp only at HX
 clear hs
 by_cases hc : c = 0
 ·subst hc
  by_cases hmn : most < n
  ·have HE : Hid (X = ([], [],2)):=Lib.hid (by rw [HX.out,if_neg (by simp),if_pos hmn])
   have h1 : (most : Int) < (n : Int):=by omega
   clear HX hmn
   go_enter Tryz.func148,Tryz.ntmps148
   go_wp2_with fail
   refine HN.out.mono ?_
   rintro e w1 ⟨rfl,hb⟩
   have HB:=Lib.hid hb
   clear hb
   go_wp2
   exact HP.out _ _ 2 _ HE.out HB.out
  ·have h1 : ((most : Int) < (n : Int)) = False:=by simp; omega
   by_cases hrn : rest.length < n
   ·have HE : Hid (X = ([], [],20)):=Lib.hid (by rw [HX.out,if_neg (by simp),if_neg hmn,if_pos hrn])
    have h2 : (rest.length : Int) < (n : Int):=by omega
    clear HX hmn hrn
    go_enter Tryz.func148,Tryz.ntmps148
    go_wp2_with fail
    refine HN.out.mono ?_
    rintro e w1 ⟨rfl,hb⟩
    have HB:=Lib.hid hb
    clear hb
    go_wp2
    exact HP.out _ _ 20 _ HE.out HB.out
   ·have HE : Hid (X = (rest.take n,rest.drop n,0)):=Lib.hid (by rw [HX.out,if_neg (by simp),if_neg hmn,if_neg hrn])
    have h2 : ((rest.length : Int) < (n : Int)) = False:=by simp; omega
    have t1:=run_take rest n (by omega)
    have t2:=run_drop rest n (by omega)
    clear HX hmn hrn
    generalize rest.take n = pc at *
    generalize rest.drop n = pd at *
    go_enter Tryz.func148,Tryz.ntmps148
    go_wp2_with fail
    refine HN.out.mono ?_
    rintro e w1 ⟨rfl,hb⟩
    have HB:=Lib.hid hb
    clear hb
    go_wp2
    go_quiet (fail)
    go_wp2
    exact HP.out _ _ 0 _ HE.out ⟨HB.out.os,HB.out.tape,HB.out.output,HB.out.size,HB.out.block⟩
 ·have HE : Hid (X = ([], [],c)):=Lib.hid (by rw [HX.out,if_pos hc])
  have hc1 : ((c : Int) != 0) = true:=by simp; exact hc
  clear HX hc
  go_enter Tryz.func148,Tryz.ntmps148
  go_wp2_with fail
  refine HN.out.mono ?_
  rintro e w1 ⟨rfl,hb⟩
  have HB:=Lib.hid hb
  clear hb
  go_wp2
  exact HP.out _ _ c _ HE.out HB.out
def RRd (w : World) (g : Nat) (s : List UInt8 × Nat) : Prop:=Blk w g 133 #[.string ⟨s.1.toArray⟩,.int .i64 (s.2 : Int)] ∧ s.1.length ≤ 1000000
def RRdEnd (w : World) (g : Nat) (v : Value) (s : List UInt8 × Nat) (e : Ending) (w' : World) : Prop:=e = .returned v ∧ RRd w' g s ∧ w.grownBy w' (some g)
theorem grown_of_below {a b c : World} {g : Nat} (h : Below a.heap.size a b) (hg : b.grownBy c (some g)) : a.grownBy c (some g) :=
 ⟨hg.os.trans h.os,hg.tape.trans h.tape,hg.output.trans h.output,Nat.le_trans h.size hg.size,fun k hk hne=>(hg.block k (Nat.lt_of_lt_of_le hk h.size) hne).trans (h.block k hk)⟩
set_option maxRecDepth 100000 in
set_option maxHeartbeats 1000000 in
theorem ref02_RText (w : World) (g : Nat) (s : List UInt8 × Nat) (h : RRd w g s) (most : Nat) (hm : most ≤ 1000000) :
  Calls Tryz.prog 120 #[.pointer (some ⟨g,0,none⟩),.int .i64 (most : Int)] w (RRdEnd w g (.string ⟨(txtS s most).1.toArray⟩) (txtS s most).2):=by
 obtain ⟨l,c⟩:=s
 obtain ⟨hB,hl⟩:=h
 simp only at hB hl
 have HP : Hid (∀ (t : List UInt8) s' w',txtS (l,c) most = (t,s') → RRd w' g s' → w.grownBy w' (some g) → RRdEnd w g (.string ⟨(txtS (l,c) most).1.toArray⟩) (txtS (l,c) most).2 (.returned (.string ⟨t.toArray⟩)) w'):=Lib.hid (fun n s' w' e h1 h2=>by rw [e]; exact ⟨rfl,h1,h2⟩)
 generalize RRdEnd w g (.string ⟨(txtS (l,c) most).1.toArray⟩) (txtS (l,c) most).2 = P at HP ⊢
 have HB:=Lib.hid hB
 have HL:=Lib.hid hl
 have c0 : w.cell? ⟨g,0,none⟩ = some (.string ⟨l.toArray⟩):=hB.cell 0
 have c1 : w.cell? ⟨g,1,none⟩ = some (.int .i64 (c : Int)):=hB.cell 1
 by_cases hc : c = 0
 ·subst hc
  have HT:=Lib.hid (ref02_text l hl most hm w)
  have HS : Hid (txtS (l,0) most = if (txtT l most).2.2 = 0 then ((txtT l most).1,((txtT l most).2.1,0)) else ([],(l,(txtT l most).2.2))):=Lib.hid (by simp [txtS])
  have HLn : Hid ((txtT l most).2.1.length ≤ l.length):=Lib.hid (by
   by_cases h0 : (txtT l most).2.2 = 0
   ·have:=(txtT_back (s:=l) (t:=(txtT l most).1) (r:=(txtT l most).2.1) (m:=most) (by rw [← h0])).1
    have:=congrArg List.length this
    rw [List.length_append] at this
    omega
   ·have : (txtT l most).2.1 = []:=by
     unfold txtT at h0 ⊢
     split
     ·rfl
     split
     ·rfl
     split
     ·rfl
     ·rename_i a1 a2 a3
      rw [if_neg a1,if_neg a2,if_neg a3] at h0
      exact absurd rfl h0
    rw [this]; simp)
  generalize txtT l most = Y at *
  obtain ⟨n,rest,e⟩:=Y
  simp only at HS HLn
  clear hB hl
  by_cases he : e = 0
  ·subst he
   rw [if_pos rfl] at HS
   go_enter Tryz.func120,Tryz.ntmps120
   go_wp2_with fail
   refine HT.out.mono ?_
   rintro e w1 ⟨rfl,hb⟩
   have HB1:=Lib.hid (HB.out.below hb HB.out.lt)
   have HBl:=Lib.hid hb
   have f0 : w1.frozen? ⟨g,0,none⟩ = false:=HB1.out.frozen 0
   have f1 : w1.frozen? ⟨g,1,none⟩ = false:=HB1.out.frozen 1
   have d0 : w1.cell? ⟨g,0,none⟩ = some (.string ⟨l.toArray⟩):=HB1.out.cell 0
   have d1 : w1.cell? ⟨g,1,none⟩ = some (.int .i64 0):=HB1.out.cell 1
   clear hb c0 c1
   go_wp2
   exact HP.out _ _ _ HS.out ⟨(HB1.out.set_ 1 (.int .i64 0)).set_ 0 (.string ⟨rest.toArray⟩),Nat.le_trans HLn.out HL.out⟩ (grown_of_below HBl.out (grown_set0 (grown_set0 (World.grownBy.refl _ _) _ _) _ _))
  ·rw [if_neg he] at HS
   have he1 : ((e : Int) != 0) = true:=by simp; exact he
   clear he
   go_enter Tryz.func120,Tryz.ntmps120
   go_wp2_with fail
   refine HT.out.mono ?_
   rintro e w1 ⟨rfl,hb⟩
   have HB1:=Lib.hid (HB.out.below hb HB.out.lt)
   have HBl:=Lib.hid hb
   have f1 : w1.frozen? ⟨g,1,none⟩ = false:=HB1.out.frozen 1
   have d1 : w1.cell? ⟨g,1,none⟩ = some (.int .i64 0):=HB1.out.cell 1
   clear hb c0 c1
   go_wp2
   exact HP.out [] _ _ HS.out ⟨HB1.out.set_ 1 (.int .i64 (e : Int)),HL.out⟩ (grown_of_below HBl.out (grown_set0 (World.grownBy.refl _ _) _ _))
 ·have HS : Hid (txtS (l,c) most = ([],(l,c))):=Lib.hid (by simp [txtS,hc])
  have hc1 : ((c : Int) != 0) = true:=by simp; exact hc
  clear hB hl hc
  go_enter Tryz.func120,Tryz.ntmps120
  go_wp2
  exact HP.out [] _ _ HS.out ⟨HB.out,HL.out⟩ (World.grownBy.refl _ _)
set_option maxRecDepth 100000 in
set_option maxHeartbeats 1000000 in
theorem ref02_RBytes (w : World) (g : Nat) (s : List UInt8 × Nat) (h : RRd w g s) (n : Nat) (hn : n ≤ 1000) :
  Calls Tryz.prog 119 #[.pointer (some ⟨g,0,none⟩),.int .i64 (n : Int)] w (RRdEnd w g (.string ⟨(bytesS s n).1.toArray⟩) (bytesS s n).2):=by
 obtain ⟨l,c⟩:=s
 obtain ⟨hB,hl⟩:=h
 simp only at hB hl
 have HP : Hid (∀ (t : List UInt8) s' w',bytesS (l,c) n = (t,s') → RRd w' g s' → w.grownBy w' (some g) → RRdEnd w g (.string ⟨(bytesS (l,c) n).1.toArray⟩) (bytesS (l,c) n).2 (.returned (.string ⟨t.toArray⟩)) w'):=Lib.hid (fun n s' w' e h1 h2=>by rw [e]; exact ⟨rfl,h1,h2⟩)
 have HX : Hid (bytesS (l,c) n = if c ≠ 0 then ([],(l,c)) else if n ≤ l.length then (l.take n,(l.drop n,0)) else ([],(l,20))):=Lib.hid rfl
 generalize RRdEnd w g (.string ⟨(bytesS (l,c) n).1.toArray⟩) (bytesS (l,c) n).2 = P at HP ⊢
 generalize bytesS (l,c) n = X at *
 have c0 : w.cell? ⟨g,0,none⟩ = some (.string ⟨l.toArray⟩):=hB.cell 0
 have c1 : w.cell? ⟨g,1,none⟩ = some (.int .i64 (c : Int)):=hB.cell 1
 have f0 : w.frozen? ⟨g,0,none⟩ = false:=hB.frozen 0
 have f1 : w.frozen? ⟨g,1,none⟩ = false:=hB.frozen 1
 have HB:=Lib.hid hB
 have HL:=Lib.hid hl
 have hn0 : ((n : Int) < 0) = False:=by simp
 by_cases hc : c = 0
 ·subst hc
  by_cases hle : n ≤ l.length
  ·have HE : Hid (X = (l.take n,(l.drop n,0))):=Lib.hid (by rw [HX.out,if_neg (by simp),if_pos hle])
   have h1 : ((l.length : Int) < (n : Int)) = False:=by simp; omega
   have t1:=run_take l n (by omega)
   have t2:=run_drop l n (by omega)
   have HLn : Hid ((l.drop n).length ≤ 1000000):=Lib.hid (by rw [List.length_drop]; omega)
   clear hB hl hle HX
   generalize l.take n = t at *
   generalize l.drop n = d at *
   go_enter Tryz.func119,Tryz.ntmps119
   go_wp2
   exact HP.out _ _ _ HE.out ⟨HB.out.set_ 0 (.string ⟨d.toArray⟩),HLn.out⟩ (grown_set0 (World.grownBy.refl _ _) _ _)
  ·have HE : Hid (X = ([],(l,20))):=Lib.hid (by rw [HX.out,if_neg (by simp),if_neg hle])
   have h1 : (l.length : Int) < (n : Int):=by omega
   clear hB hl hle HX
   go_enter Tryz.func119,Tryz.ntmps119
   go_wp2
   exact HP.out _ _ _ HE.out ⟨HB.out.set_ 1 (.int .i64 20),HL.out⟩ (grown_set0 (World.grownBy.refl _ _) _ _)
 ·have HE : Hid (X = ([],(l,c))):=Lib.hid (by rw [HX.out,if_pos hc])
  have hc1 : ((c : Int) != 0) = true:=by simp; exact hc
  clear hB hl hc HX
  go_enter Tryz.func119,Tryz.ntmps119
  go_wp2
  exact HP.out _ _ _ HE.out ⟨HB.out,HL.out⟩ (World.grownBy.refl _ _)
end Go.Proofs.YtomnlhbioijfhaaGreatDoor
