import Derived.Test.YtomnlhbioijfhaaGreatDoorJ08
import Derived.Test.YtomnlhbioijfhaaGreatDoorJ07
set_option linter.unusedSimpArgs false
set_option linter.unusedVariables false
namespace Go.Proofs.YtomnlhbioijfhaaGreatDoor
open Go.RowKit Go.Instr
attribute [local go_sem] ba_get ByteArray.mk_append_mk
def bitsTo (K : List (List UInt8)) : Nat → Nat
 | 0=>0
 | i + 1=>bitsTo K i + (if (K.getD i []).isEmpty then 0 else 2 ^ (15 - i))
theorem bitsTo_mod (K : List (List UInt8)) : ∀ i,i ≤ 16 → bitsTo K i % 2 ^ (16 - i) = 0 ∧ bitsTo K i + 2 ^ (16 - i) ≤ 65536
 | 0,_=>by simp [bitsTo]
 | i + 1,h=>by
  obtain ⟨h1,h2⟩:=bitsTo_mod K i (by omega)
  have e : (2 : Nat) ^ (16 - i) = 2 * 2 ^ (16 - (i + 1)):=by
   rw [← Nat.pow_succ']; congr 1; omega
  have e2 : 15 - i = 16 - (i + 1):=by omega
  simp only [bitsTo]
  rw [e2]
  generalize 2 ^ (16 - (i + 1)) = z at *
  rw [e] at h1 h2
  have h3:=Nat.dvd_of_mod_eq_zero h1
  obtain ⟨c,hc⟩:=h3
  split
  ·refine ⟨?_,by omega⟩
   rw [hc,Nat.add_zero,Nat.mul_assoc,Nat.mul_comm 2,Nat.mul_assoc]; exact Nat.mul_mod_right _ _
  ·refine ⟨?_,by omega⟩
   rw [hc,Nat.mul_assoc,Nat.mul_comm 2,Nat.mul_assoc,← Nat.mul_succ]; exact Nat.mul_mod_right _ _
theorem bitsTo_or (K : List (List UInt8)) (i : Nat) (h : i < 16) : bitsTo K i ||| 2 ^ (15 - i) = bitsTo K i + 2 ^ (15 - i):=by
 obtain ⟨h1,_⟩:=bitsTo_mod K i (by omega)
 obtain ⟨c,hc⟩:=Nat.dvd_of_mod_eq_zero h1
 rw [hc]
 exact (Nat.two_pow_add_eq_or_of_lt (Nat.pow_lt_pow_right (by omega) (by omega)) c).symm
set_option maxRecDepth 100000 in
set_option maxHeartbeats 1000000 in
theorem node_bits (K : List (List UInt8)) (hK : K.length = 16) (w0 : World)
  (Q : Exit → Act → World → Prop) (B : Nat) (T0 : ByteArray)
  (hQ : ∀ (s0 s2 s3 s4 s7 s8 s9 s10 s11 s12 s13 s14 s15 s16 s17 s18 s19 s20 s21 s22 s23 s24 s25 s26 s27 s28 s29 s30 s31 s32 s33 s34 s35 s36 s37 s38 s39 s40 s41 s42 s43 s44 s45 s46 s47 s48 s49 s50 s51 s52 s53 s54 s55 s56 s57 s58 s59 s60 s61 s62 s63 s64 s65 s66 s67 s68 s69 s70 s71 s72 s73 s74 s75 s76 s77 s78 s79 s80 s81 s82 s83 s84 s85 s86 s87 s88 s89 s90 : Value) (n : Nat),n = bitsTo K 16 → Q (.exit 0) { tmps:=#[s0,.pointer (some ⟨B,0,none⟩),s2,s3,s4,.string T0,.int .i64 (n : Int),s7,s8,s9,s10,s11,s12,s13,s14,s15,s16,s17,s18,s19,s20,s21,s22,s23,s24,s25,s26,s27,s28,s29,s30,s31,s32,s33,s34,s35,s36,s37,s38,s39,s40,s41,s42,s43,s44,s45,s46,s47,s48,s49,s50,s51,s52,s53,s54,s55,s56,s57,s58,s59,s60,s61,s62,s63,s64,s65,s66,s67,s68,s69,s70,s71,s72,s73,s74,s75,s76,s77,s78,s79,s80,s81,s82,s83,s84,s85,s86,s87,s88,s89,s90],defers := [] } w0)
  (s0 s2 s3 s4 s7 s8 s9 s10 s11 s12 s13 s14 s15 s16 s17 s18 s19 s20 s21 s22 s23 s24 s25 s26 s29 s30 s31 s32 s33 s34 s35 s36 s37 s38 s39 s40 s41 s42 s43 s44 s45 s46 s47 s48 s49 s50 s51 s52 s53 s54 s55 s56 s57 s58 s59 s60 s61 s62 s63 s64 s65 s66 s67 s68 s69 s70 s71 s72 s73 s74 s75 s76 s77 s78 s79 s80 s81 s82 s83 s84 s85 s86 s87 s88 s89 s90 : Value) :
  Code.wp Tryz.prog (.loop (loopAt Tryz.f159 0)) Q { tmps:=#[s0,.pointer (some ⟨B,0,none⟩),s2,s3,s4,.string T0,.int .i64 0,s7,s8,s9,s10,s11,s12,s13,s14,s15,s16,s17,s18,s19,s20,s21,s22,s23,s24,s25,s26,.agg (strv K).toArray,.int .i64 0,s29,s30,s31,s32,s33,s34,s35,s36,s37,s38,s39,s40,s41,s42,s43,s44,s45,s46,s47,s48,s49,s50,s51,s52,s53,s54,s55,s56,s57,s58,s59,s60,s61,s62,s63,s64,s65,s66,s67,s68,s69,s70,s71,s72,s73,s74,s75,s76,s77,s78,s79,s80,s81,s82,s83,s84,s85,s86,s87,s88,s89,s90],defers := [] } w0:=by
 have HQ:=Lib.hid hQ
 clear hQ
 refine wp_loop_ghost_k (fun k a wr => ∀ Φ : Act → Prop,(∀ (s0 s2 s3 s4 s7 s8 s9 s10 s11 s12 s13 s14 s15 s16 s17 s18 s19 s20 s21 s22 s23 s24 s25 s26 s29 s30 s31 s32 s33 s34 s35 s36 s37 s38 s39 s40 s41 s42 s43 s44 s45 s46 s47 s48 s49 s50 s51 s52 s53 s54 s55 s56 s57 s58 s59 s60 s61 s62 s63 s64 s65 s66 s67 s68 s69 s70 s71 s72 s73 s74 s75 s76 s77 s78 s79 s80 s81 s82 s83 s84 s85 s86 s87 s88 s89 s90 : Value) (i m : Nat),(i + k = 16 ∧ m = bitsTo K i ∧ wr = w0) → Φ { tmps:=#[s0,.pointer (some ⟨B,0,none⟩),s2,s3,s4,.string T0,.int .i64 (m : Int),s7,s8,s9,s10,s11,s12,s13,s14,s15,s16,s17,s18,s19,s20,s21,s22,s23,s24,s25,s26,.agg (strv K).toArray,.int .i64 (i : Int),s29,s30,s31,s32,s33,s34,s35,s36,s37,s38,s39,s40,s41,s42,s43,s44,s45,s46,s47,s48,s49,s50,s51,s52,s53,s54,s55,s56,s57,s58,s59,s60,s61,s62,s63,s64,s65,s66,s67,s68,s69,s70,s71,s72,s73,s74,s75,s76,s77,s78,s79,s80,s81,s82,s83,s84,s85,s86,s87,s88,s89,s90],defers := [] }) → Φ a) (16) ?_ ?_
 ·refine fun Φ hΦ=>hΦ _ _ _ _ _ _ _ _ _ _ _ _ _ _ _ _ _ _ _ _ _ _ _ _ _ _ _ _ _ _ _ _ _ _ _ _ _ _ _ _ _ _ _ _ _ _ _ _ _ _ _ _ _ _ _ _ _ _ _ _ _ _ _ _ _ _ _ _ _ _ _ _ _ _ _ _ _ _ _ _ _ _ _ _ _ _ (0) (0) ?_
  exact ⟨rfl,rfl,rfl⟩
 ·intro k1 a1 wr1 hI1 J1 K1 hJ1 hK1
  refine hI1 (fun a=>Code.wp _ _ _ a _) ?_
  clear hI1 a1
  intro s0 s1 s2 s3 s4 s5 s6 s7 s8 s9 s10 s11 s12 s13 s14 s15 s16 s17 s18 s19 s20 s21 s22 s23 s24 s25 s26 s27 s28 s29 s30 s31 s32 s33 s34 s35 s36 s37 s38 s39 s40 s41 s42 s43 s44 s45 s46 s47 s48 s49 s50 s51 s52 s53 s54 s55 s56 s57 s58 s59 s60 s61 s62 s63 s64 s65 s66 s67 s68 s69 s70 s71 s72 s73 s74 s75 s76 s77 s78 s79 s80 s81 s82 s83 s84 s85 i m hrel
  show Code.wp _ _ _ _ _
  conv=>arg 2; whnf
  obtain ⟨h1,h2,rfl⟩:=hrel
  by_cases hi : i < 16
  ·have hi1 : (i : Int) < 16:=by omega
   have HX:=fun w=>run_index_k K hK i hi w
   have hb:=Lib.hid (show bitsTo K (i + 1) = bitsTo K i + (if (K.getD i []).isEmpty then 0 else 2 ^ (15 - i)) from rfl)
   have ho:=Lib.hid (bitsTo_or K i hi)
   have hm2 : m ≤ 65536:=by rw [h2]; have:=(bitsTo_mod K i (by omega)).2; generalize 2 ^ (16 - i) = z at *; omega
   have HI:=Lib.hid (And.intro h1 h2)
   clear h1 h2
   generalize K.getD i [] = s at *
   cases s with
   | nil =>
    go_wp2
    refine Handed.intro (16 - (i + 1)) ?_ (hJ1 _ _ _ (fun Φ hΦ=>hΦ _ _ _ _ _ _ _ _ _ _ _ _ _ _ _ _ _ _ _ _ _ _ _ _ _ _ _ _ _ _ _ _ _ _ _ _ _ _ _ _ _ _ _ _ _ _ _ _ _ _ _ _ _ _ _ _ _ _ _ _ _ _ _ _ _ _ _ _ _ _ _ _ _ _ _ _ _ _ _ _ _ _ _ _ _ _ (i + 1) (m) ?_))
    ·have:=HI.out.1; omega
    ·refine ⟨by have:=HI.out.1; omega,by rw [hb.out,← HI.out.2]; rfl,rfl⟩
   | cons a t =>
    have ne1 : ((a :: t).toArray = #[]) = False:=by simp
    have ne2 : (a :: t).isEmpty = false:=rfl
    generalize hs : (a :: t) = s at *
    have hsh : (15 : Int) - i < 64:=by omega
    have hsh0 : (0 : Int) ≤ 15 - i:=by omega
    have HOR : Hid (bits BinOp.or .i64 (m : Int) (wrap64 ((2 : Int) ^ (15 - i))) = ((m + 2 ^ (15 - i) : Nat) : Int)):=by
     have e0 : (2 : Nat) ^ (15 - i) ≤ 2 ^ 15:=Nat.pow_le_pow_right (by omega) (by omega)
     have e1 : ((2 : Int) ^ (15 - i)) = ((2 ^ (15 - i) : Nat) : Int):=by simp
     rw [e1]
     have HO:=ho.out
     rw [← HI.out.2] at HO
     generalize (2 : Nat) ^ (15 - i) = z at *
     rw [IntWalk.wrap64_in _ (by constructor <;> omega),i64_or_nat m _ (by omega) (by omega),HO]
     exact Lib.hid rfl
    go_wp2
    rw [HOR.out]
    refine Handed.intro (16 - (i + 1)) ?_ (hJ1 _ _ _ (fun Φ hΦ=>hΦ _ _ _ _ _ _ _ _ _ _ _ _ _ _ _ _ _ _ _ _ _ _ _ _ _ _ _ _ _ _ _ _ _ _ _ _ _ _ _ _ _ _ _ _ _ _ _ _ _ _ _ _ _ _ _ _ _ _ _ _ _ _ _ _ _ _ _ _ _ _ _ _ _ _ _ _ _ _ _ _ _ _ _ _ _ _ (i + 1) (m + 2 ^ (15 - i)) ?_))
    ·have:=HI.out.1; omega
    ·refine ⟨by have:=HI.out.1; omega,by rw [hb.out,← HI.out.2,ne2]; rfl,rfl⟩
  ·have e16 : i = 16:=by omega
   subst e16
   have H2:=Lib.hid h2
   clear h2 h1
   go_wp2
   exact HQ.out _ _ _ _ _ _ _ _ _ _ _ _ _ _ _ _ _ _ _ _ _ _ _ _ _ _ _ _ _ _ _ _ _ _ _ _ _ _ _ _ _ _ _ _ _ _ _ _ _ _ _ _ _ _ _ _ _ _ _ _ _ _ _ _ _ _ _ _ _ _ _ _ _ _ _ _ _ _ _ _ _ _ _ _ _ _ _ _ _ H2.out
set_option maxRecDepth 100000 in
set_option maxHeartbeats 1000000 in
theorem node_cat (D : List (List UInt8)) (hD : D.length ≤ 16) (h32 : ∀ s ∈ D,s.length ≤ 32) (T : List UInt8) (hT : T.length ≤ 100000) (w0 : World) (A : Option Addr) (c : Nat) (HR : Reads w0 w0.heap.size 1 A D.length (strv D))
  (Q : Exit → Act → World → Prop) (B : Nat)
  (hQ : ∀ (s0 s2 s3 s4 s6 s7 s8 s9 s10 s11 s12 s13 s14 s15 s16 s17 s18 s19 s20 s21 s22 s23 s24 s25 s26 s27 s28 s29 s30 s31 s32 s33 s34 s35 s36 s37 s38 s39 s40 s41 s42 s43 s44 s45 s46 s47 s48 s49 s50 s51 s52 s53 s54 s55 s56 s57 s58 s59 s60 s61 s62 s63 s64 s65 s66 s67 s68 s69 s70 s71 s72 s73 s74 s75 s76 s77 s78 s79 s80 s81 s82 s83 s84 s85 s86 s87 s88 s89 s90 : Value) (S : List UInt8),S = T ++ D.flatten → Q (.exit 2) { tmps:=#[s0,.pointer (some ⟨B,0,none⟩),s2,s3,s4,.string ⟨S.toArray⟩,s6,s7,s8,s9,s10,s11,s12,s13,s14,s15,s16,s17,s18,s19,s20,s21,s22,s23,s24,s25,s26,s27,s28,s29,s30,s31,s32,s33,s34,s35,s36,s37,s38,s39,s40,s41,s42,s43,s44,s45,s46,s47,s48,s49,s50,s51,s52,s53,s54,s55,s56,s57,s58,s59,s60,s61,s62,s63,s64,s65,s66,s67,s68,s69,s70,s71,s72,s73,s74,s75,s76,s77,s78,s79,s80,s81,s82,s83,s84,s85,s86,s87,s88,s89,s90],defers := [] } w0)
  (s0 s2 s3 s4 s6 s7 s8 s9 s10 s11 s12 s13 s14 s15 s16 s17 s18 s19 s20 s21 s22 s23 s24 s25 s26 s27 s28 s29 s30 s31 s32 s33 s34 s35 s36 s37 s38 s39 s40 s41 s42 s43 s44 s45 s46 s47 s48 s49 s53 s54 s55 s56 s57 s58 s59 s60 s61 s62 s63 s64 s65 s66 s67 s68 s69 s70 s71 s72 s73 s74 s75 s76 s77 s78 s79 s80 s81 s82 s83 s84 s85 s86 s87 s88 s89 s90 : Value) :
  Code.wp Tryz.prog (.loop (loopAt Tryz.f159 1)) Q { tmps:=#[s0,.pointer (some ⟨B,0,none⟩),s2,s3,s4,.string ⟨T.toArray⟩,s6,s7,s8,s9,s10,s11,s12,s13,s14,s15,s16,s17,s18,s19,s20,s21,s22,s23,s24,s25,s26,s27,s28,s29,s30,s31,s32,s33,s34,s35,s36,s37,s38,s39,s40,s41,s42,s43,s44,s45,s46,s47,s48,s49,.slice A D.length c,.int .i64 D.length,.int .i64 0,s53,s54,s55,s56,s57,s58,s59,s60,s61,s62,s63,s64,s65,s66,s67,s68,s69,s70,s71,s72,s73,s74,s75,s76,s77,s78,s79,s80,s81,s82,s83,s84,s85,s86,s87,s88,s89,s90],defers := [] } w0:=by
 have HQ:=Lib.hid hQ
 clear hQ
 refine wp_loop_ghost_k (fun k a wr => ∀ Φ : Act → Prop,(∀ (s0 s2 s3 s4 s6 s7 s8 s9 s10 s11 s12 s13 s14 s15 s16 s17 s18 s19 s20 s21 s22 s23 s24 s25 s26 s27 s28 s29 s30 s31 s32 s33 s34 s35 s36 s37 s38 s39 s40 s41 s42 s43 s44 s45 s46 s47 s48 s49 s53 s54 s55 s56 s57 s58 s59 s60 s61 s62 s63 s64 s65 s66 s67 s68 s69 s70 s71 s72 s73 s74 s75 s76 s77 s78 s79 s80 s81 s82 s83 s84 s85 s86 s87 s88 s89 s90 : Value) (i : Nat) (S : List UInt8),(i + k = D.length ∧ S = T ++ (D.take i).flatten ∧ S.length ≤ T.length + 32 * i ∧ wr = w0) → Φ { tmps:=#[s0,.pointer (some ⟨B,0,none⟩),s2,s3,s4,.string ⟨S.toArray⟩,s6,s7,s8,s9,s10,s11,s12,s13,s14,s15,s16,s17,s18,s19,s20,s21,s22,s23,s24,s25,s26,s27,s28,s29,s30,s31,s32,s33,s34,s35,s36,s37,s38,s39,s40,s41,s42,s43,s44,s45,s46,s47,s48,s49,.slice A D.length c,.int .i64 D.length,.int .i64 (i : Int),s53,s54,s55,s56,s57,s58,s59,s60,s61,s62,s63,s64,s65,s66,s67,s68,s69,s70,s71,s72,s73,s74,s75,s76,s77,s78,s79,s80,s81,s82,s83,s84,s85,s86,s87,s88,s89,s90],defers := [] }) → Φ a) (D.length) ?_ ?_
 ·refine fun Φ hΦ=>hΦ _ _ _ _ _ _ _ _ _ _ _ _ _ _ _ _ _ _ _ _ _ _ _ _ _ _ _ _ _ _ _ _ _ _ _ _ _ _ _ _ _ _ _ _ _ _ _ _ _ _ _ _ _ _ _ _ _ _ _ _ _ _ _ _ _ _ _ _ _ _ _ _ _ _ _ _ _ _ _ _ _ _ _ _ _ _ (0) (T) ?_
  exact ⟨by omega,by simp,by omega,rfl⟩
 ·intro k1 a1 wr1 hI1 J1 K1 hJ1 hK1
  refine hI1 (fun a=>Code.wp _ _ _ a _) ?_
  clear hI1 a1
  intro s0 s1 s2 s3 s4 s5 s6 s7 s8 s9 s10 s11 s12 s13 s14 s15 s16 s17 s18 s19 s20 s21 s22 s23 s24 s25 s26 s27 s28 s29 s30 s31 s32 s33 s34 s35 s36 s37 s38 s39 s40 s41 s42 s43 s44 s45 s46 s47 s48 s49 s50 s51 s52 s53 s54 s55 s56 s57 s58 s59 s60 s61 s62 s63 s64 s65 s66 s67 s68 s69 s70 s71 s72 s73 s74 s75 s76 s77 s78 s79 s80 s81 s82 s83 s84 s85 i S hrel
  show Code.wp _ _ _ _ _
  conv=>arg 2; whnf
  obtain ⟨h1,h2,h3,rfl⟩:=hrel
  by_cases hi : i < D.length
  ·obtain ⟨ad,rfl,hbl,hcell⟩:=HR.2 (by omega)
   have q0:=hcell i _ (strv_at hi)
   have hi1 : (i : Int) < D.length:=by omega
   have hs2 : (D.take (i + 1)).flatten = (D.take i).flatten ++ D[i]:=by
    rw [List.take_succ_eq_append_getElem hi,List.flatten_append]; simp
   have hl:=h32 _ (List.getElem_mem hi)
   have HI:=Lib.hid (And.intro h1 (And.intro h2 hs2))
   clear hcell HR h1 h2 hs2 h32
   generalize D[i] = s at *
   have hsum : S.length + s.length ≤ 9223372036854775807:=by omega
   go_wp2
   refine Handed.intro (D.length - (i + 1)) ?_ (hJ1 _ _ _ (fun Φ hΦ=>hΦ _ _ _ _ _ _ _ _ _ _ _ _ _ _ _ _ _ _ _ _ _ _ _ _ _ _ _ _ _ _ _ _ _ _ _ _ _ _ _ _ _ _ _ _ _ _ _ _ _ _ _ _ _ _ _ _ _ _ _ _ _ _ _ _ _ _ _ _ _ _ _ _ _ _ _ _ _ _ _ _ _ _ _ _ _ _ (i + 1) (S ++ s) ?_))
   ·have:=HI.out.1; omega
   ·exact ⟨by have:=HI.out.1; omega,by rw [HI.out.2.2,HI.out.2.1,List.append_assoc],by rw [List.length_append]; omega,rfl⟩
  ·have e : D.take i = D:=List.take_of_length_le (by omega)
   have hi2 : ((i : Int) < D.length) = False:=by simp; omega
   rw [e] at h2
   have E2:=Lib.hid h2
   clear h2 e h1 HR
   go_wp2
   exact HQ.out _ _ _ _ _ _ _ _ _ _ _ _ _ _ _ _ _ _ _ _ _ _ _ _ _ _ _ _ _ _ _ _ _ _ _ _ _ _ _ _ _ _ _ _ _ _ _ _ _ _ _ _ _ _ _ _ _ _ _ _ _ _ _ _ _ _ _ _ _ _ _ _ _ _ _ _ _ _ _ _ _ _ _ _ _ _ _ _ _ _ E2.out
def nodeText (k : Nat) (p v : List UInt8) (K : List (List UInt8)) : List UInt8 :=
 if k = 3 then 3 :: UInt8.ofNat (bitsTo K 16 / 256) :: UInt8.ofNat (bitsTo K 16) :: ((kidsW K).flatten ++ textW v)
 else UInt8.ofNat k :: (textW (Nib.packed p (decide (k = 1))) ++ if k = 1 then textW v else K.getD 0 [])
def EncEnd (w : World) (s : List UInt8) (c : Int) (e : Ending) (w' : World) : Prop:=e = .returned (.tuple #[.string ⟨s.toArray⟩,.int .i64 c]) ∧ Below w.heap.size w w'
theorem ofNat_mod256 (n : Nat) : UInt8.ofNat (n % 256) = UInt8.ofNat n:=UInt8.toNat_inj.1 (by simp)
theorem flatten_len {n : Nat} : ∀ D : List (List UInt8),(∀ s ∈ D,s.length ≤ n) → D.flatten.length ≤ D.length * n
 | [],_=>by simp
 | a :: D,h=>by
  have:=flatten_len D (fun s hs=>h s (by simp [hs]))
  have:=h a (by simp)
  rw [List.flatten_cons,List.length_append,List.length_cons,Nat.succ_mul]; omega
theorem textW_len (s : List UInt8) (h : s.length < 9223372036854775808) : (textW s).length ≤ 9 + s.length:=by
 have:=numW_len s.length h
 unfold textW; rw [List.length_append]; omega
theorem kidsW_32 {K : List (List UInt8)} (h : sumsOk (kidsW K) = true) : ∀ s ∈ kidsW K,s.length ≤ 32:=by
 intro s hs
 unfold sumsOk at h
 rw [List.all_eq_true] at h
 have:=h s hs
 simp at this; omega
set_option maxRecDepth 100000 in
set_option maxHeartbeats 1000000 in
theorem encode_branch (v : List UInt8) (K : List (List UInt8)) (hK : K.length = 16) (hKs : ∀ s ∈ K,s.length ≤ 9223372036854775807) (hf : fineN 3 [] v K = true) (w : World) :
  Calls Tryz.prog 159 #[.agg (nodeV 3 [] v K).toArray] w (EncEnd w (nodeText 3 [] v K) 0):=by
 have hf2 : sumsOk (kidsW K) = true ∧ v.length ≤ 32:=by
  simp [fineN] at hf
  exact ⟨hf.1.1,hf.2⟩
 have HP : Hid (∀ s w',nodeText 3 [] v K = s → Below w.heap.size w w' → EncEnd w (nodeText 3 [] v K) 0 (.returned (.tuple #[.string ⟨s.toArray⟩,.int .i64 0])) w'):=Lib.hid (fun b w' h1 h2=>⟨by rw [h1],h2⟩)
 have HC:=node_Check 3 [] v (by simp) (by omega) K hK hKs
 rw [hf] at HC
 have HN:=node_Kids (nk:=.int .i64 3) (np:=.string ⟨([] : List UInt8).toArray⟩) (nv:=.string ⟨v.toArray⟩) (h1:=rfl) (h2:=rfl) (h3:=rfl) (K:=K) (hK:=hK)
 have HT:=code_Text v (by omega)
 have HF : Hid (nodeText 3 [] v K = 3 :: UInt8.ofNat (bitsTo K 16 / 256) :: UInt8.ofNat (bitsTo K 16) :: ((kidsW K).flatten ++ textW v)):=Lib.hid (by simp [nodeText])
 have H32:=Lib.hid (kidsW_32 hf2.1)
 have hv:=hf2.2
 have HSz:=Lib.hid (nodeV_size (k:=3) (p := []) (v:=v) hK)
 have HSk:=Lib.hid (strv_length K)
 clear hf hf2
 generalize EncEnd w (nodeText 3 [] v K) 0 = P at HP ⊢
 generalize nodeText 3 [] v K = S0 at *
 go_enter Tryz.func159,Tryz.ntmps159
 go_upto_region 1 with fail
 have SZ : (Tryz.prog.info? 117).map (·.size) = some (nodeV 3 [] v K).length:=by rw [HSz.out]; exact info_node
 have SZ2 : (Tryz.prog.info? 115).map (·.size) = some (strv K).length:=by rw [HSk.out,hK]; exact size_arr
 have F0 : Hid (Blk (w.alloc (.cells (nodeV 3 [] v K).toArray 117)) w.heap.size 117 (nodeV 3 [] v K).toArray ∧ Below w.heap.size w (w.alloc (.cells (nodeV 3 [] v K).toArray 117))):=Lib.hid ⟨Blk.new _ _ _,by go_grown⟩
 generalize w.alloc (.cells (nodeV 3 [] v K).toArray 117) = W0 at F0 ⊢
 have HB:=Lib.hid (show w.heap.size < W0.heap.size from F0.out.1.lt)
 obtain ⟨_,_,_,_,RA⟩:=NodeAt.of (C := []) (by rw [List.append_nil]; exact F0.out.1)
 generalize hB : w.heap.size = B at *
 clear hB
 go_upto_region 2 with (first | (refine wpList_load_mid rfl 117 _ rfl B 0 rfl _ _ RA Tryz.underlying117 rfl SZ ?_) | (go_at_call 115; refine (HC _).mono ?_; rintro e w1 ⟨rfl,hb⟩))
 have F1:=Lib.hid (show Below B w w1 from F0.out.2.trans (hb.mono (Nat.le_of_lt HB.out)))
 have HB1:=Lib.hid (Nat.lt_of_lt_of_le HB.out hb.size)
 have BK1:=Lib.hid (F0.out.1.below hb HB.out)
 clear hb F0 RA HB
 obtain ⟨q0,q1,q2,RK,RA⟩:=NodeAt.of (C := []) (by rw [List.append_nil]; exact BK1.out)
 have cv:=conv1 w1 3 (by omega) (by omega)
 go_upto_region 5 with fail
 have F2 : Hid (Blk (w1.alloc (.cells #[.int .u8 3] 5)) B 117 (nodeV 3 [] v K).toArray ∧ Below B w (w1.alloc (.cells #[.int .u8 3] 5)) ∧ B < (w1.alloc (.cells #[.int .u8 3] 5)).heap.size):=Lib.hid ⟨BK1.out.alloc _,F1.out.alloc (Nat.le_of_lt HB1.out) _,by have:=HB1.out; simp; omega⟩
 clear cv q0 q1 q2 RK RA
 generalize w1.alloc (.cells #[.int .u8 3] 5) = w2 at F2 ⊢
 clear F1 HB1 BK1
 obtain ⟨q0,q1,q2,RK,RA⟩:=NodeAt.of (C := []) (by rw [List.append_nil]; exact F2.out.1)
 go_wp2_with (refine wpList_load_mid rfl 115 _ rfl B 3 rfl _ _ RK Tryz.underlying115 rfl SZ2 ?_)
 refine node_bits K hK w2 _ B _ ?_ _ _ _ _ _ _ _ _ _ _ _ _ _ _ _ _ _ _ _ _ _ _ _ _ _ _ _ _ _ _ _ _ _ _ _ _ _ _ _ _ _ _ _ _ _ _ _ _ _ _ _ _ _ _ _ _ _ _ _ _ _ _ _ _ _ _ _ _ _ _ _ _ _ _ _ _ _ _ _ _ _ _ _ _ _ _
 intro s0 s2 s3 s4 s7 s8 s9 s10 s11 s12 s13 s14 s15 s16 s17 s18 s19 s20 s21 s22 s23 s24 s25 s26 s27 s28 s29 s30 s31 s32 s33 s34 s35 s36 s37 s38 s39 s40 s41 s42 s43 s44 s45 s46 s47 s48 s49 s50 s51 s52 s53 s54 s55 s56 s57 s58 s59 s60 s61 s62 s63 s64 s65 s66 s67 s68 s69 s70 s71 s72 s73 s74 s75 s76 s77 s78 s79 s80 s81 s82 s83 s84 s85 s86 s87 s88 s89 s90 n hn
 have hn2 : n ≤ 65535:=by rw [hn]; have:=(bitsTo_mod K 16 (by omega)).2; omega
 have HN2:=Lib.hid hn
 clear hn
 have cv:=conv2 w2 ((n : Int) / 256) ((n : Int) % 256) (by omega) (by omega) (by omega) (by omega)
 go_upto_region 14 with fail
 have F3 : Hid (Blk (w2.alloc (.cells #[.int .u8 ((n : Int) / 256),.int .u8 ((n : Int) % 256)] 5)) B 117 (nodeV 3 [] v K).toArray ∧ Below B w (w2.alloc (.cells #[.int .u8 ((n : Int) / 256),.int .u8 ((n : Int) % 256)] 5)) ∧ B < (w2.alloc (.cells #[.int .u8 ((n : Int) / 256),.int .u8 ((n : Int) % 256)] 5)).heap.size):=Lib.hid ⟨F2.out.1.alloc _,F2.out.2.1.alloc (Nat.le_of_lt F2.out.2.2) _,by have:=F2.out.2.2; simp; omega⟩
 clear cv q0 q1 q2 RK RA
 generalize w2.alloc (.cells #[.int .u8 ((n : Int) / 256),.int .u8 ((n : Int) % 256)] 5) = w3 at F3 ⊢
 clear F2
 obtain ⟨q0,q1,q2,RK,RA⟩:=NodeAt.of (C := []) (by rw [List.append_nil]; exact F3.out.1)
 have ET : Hid (#[(3 : UInt8),UInt8.ofNat (n / 256),UInt8.ofNat (n % 256)] = [3,UInt8.ofNat (n / 256),UInt8.ofNat n].toArray):=Lib.hid (by rw [ofNat_mod256])
 rw [ET.out]
 generalize hT : [3,UInt8.ofNat (n / 256),UInt8.ofNat n] = T
 have HT3:=Lib.hid hT
 clear hT
 go_wp2_with (first | (refine wpList_load_mid rfl 117 _ rfl B 0 rfl _ _ RA Tryz.underlying117 rfl SZ ?_) | (go_at_call 142; refine (HN _).mono ?_; rintro e w4 ⟨A,c,m,rfl,hm,own,hb⟩; have OWN:=Lib.hid (And.intro hm own); clear hm own))
 have F4 : Hid (Blk w4 B 117 (nodeV 3 [] v K).toArray ∧ Below B w w4 ∧ B < w4.heap.size):=Lib.hid ⟨F3.out.1.below hb F3.out.2.2,F3.out.2.1.trans (hb.mono (Nat.le_of_lt F3.out.2.2)),Nat.lt_of_lt_of_le F3.out.2.2 hb.size⟩
 clear hb q0 q1 q2 RK RA
 obtain ⟨q0,q1,q2,RK,RA⟩:=NodeAt.of (C := []) (by rw [List.append_nil]; exact F4.out.1)
 have hk16 : (kidsW K).length ≤ 16:=by
  have:=List.length_filter_le (fun s : List UInt8 => !s.isEmpty) K
  unfold kidsW; omega
 obtain ⟨hm,own⟩:=OWN.out
 clear OWN
 subst hm
 have RS:=Reads.of_own own
 refine node_cat (kidsW K) hk16 H32.out T (by rw [← HT3.out]; simp) w4 A c RS _ B ?_ _ _ _ _ _ _ _ _ _ _ _ _ _ _ _ _ _ _ _ _ _ _ _ _ _ _ _ _ _ _ _ _ _ _ _ _ _ _ _ _ _ _ _ _ _ _ _ _ _ _ _ _ _ _ _ _ _ _ _ _ _ _ _ _ _ _ _ _ _ _ _ _ _ _ _ _ _ _ _ _ _ _ _ _ _ _
 clear RS own
 intro s0 s2 s3 s4 s6 s7 s8 s9 s10 s11 s12 s13 s14 s15 s16 s17 s18 s19 s20 s21 s22 s23 s24 s25 s26 s27 s28 s29 s30 s31 s32 s33 s34 s35 s36 s37 s38 s39 s40 s41 s42 s43 s44 s45 s46 s47 s48 s49 s50 s51 s52 s53 s54 s55 s56 s57 s58 s59 s60 s61 s62 s63 s64 s65 s66 s67 s68 s69 s70 s71 s72 s73 s74 s75 s76 s77 s78 s79 s80 s81 s82 s83 s84 s85 s86 s87 s88 s89 s90 S hS
 have hl : S.length ≤ 100000:=by
  have:=flatten_len _ H32.out
  have h3 : T.length = 3:=by rw [← HT3.out]; rfl
  rw [hS,List.length_append]
  have:=Nat.mul_le_mul_right 32 hk16
  omega
 have hl2 : (textW v).length ≤ 100000:=by have:=textW_len v (by omega); omega
 have HS:=Lib.hid hS
 clear hS
 generalize textW v = tv at *
 have hsum : S.length + tv.length ≤ 9223372036854775807:=by omega
 go_wp2_with (go_at_call 132; refine (HT _).mono ?_; rintro e w5 ⟨rfl,hb⟩)
 exact HP.out _ _ (by rw [HF.out,HS.out,← HT3.out,← HN2.out]; rfl) (F4.out.2.1.trans (hb.mono (Nat.le_of_lt F4.out.2.2)))
set_option maxRecDepth 100000 in
set_option maxHeartbeats 1000000 in
theorem encode_leaf (p v : List UInt8) (K : List (List UInt8)) (hK : K.length = 16) (hKs : ∀ s ∈ K,s.length ≤ 9223372036854775807) (hf : fineN 1 p v K = true) (w : World) :
  Calls Tryz.prog 159 #[.agg (nodeV 1 p v K).toArray] w (EncEnd w (nodeText 1 p v K) 0):=by
 have hf2 : (Nib.fit p = true ∧ p.length ≤ 16) ∧ v.length ≤ 32:=by
  simp [fineN,pathOk] at hf
  exact ⟨hf.1.1.2,hf.2⟩
 have HP : Hid (∀ s w',nodeText 1 p v K = s → Below w.heap.size w w' → EncEnd w (nodeText 1 p v K) 0 (.returned (.tuple #[.string ⟨s.toArray⟩,.int .i64 0])) w'):=Lib.hid (fun b w' h1 h2=>⟨by rw [h1],h2⟩)
 have HC:=node_Check 1 p v (by omega) (by omega) K hK hKs
 rw [hf] at HC
 have hp16:=hf2.1.2
 have HPk:=nib_Pack p true
 rw [show Nib.pack p true = (Nib.packed p true,0) by unfold Nib.pack; rw [hf2.1.1]; rfl] at HPk
 have hpl:=Nib.packed_length p true
 have HT:=code_Text v (by omega)
 have HT2:=code_Text (Nib.packed p true) (by omega)
 have HF : Hid (nodeText 1 p v K = 1 :: (textW (Nib.packed p true) ++ textW v)):=Lib.hid (by simp [nodeText])
 have hv:=hf2.2
 have hl1:=textW_len v (by omega)
 have hl2:=textW_len (Nib.packed p true) (by omega)
 have hl1' : (textW v).length ≤ 1000:=by omega
 have hl2' : (textW (Nib.packed p true)).length ≤ 1000:=by omega
 have HSz:=Lib.hid (nodeV_size (k:=1) (p:=p) (v:=v) hK)
 clear hf hf2 hpl hl1 hl2
 generalize textW v = tv at *
 generalize textW (Nib.packed p true) = tp at *
 generalize Nib.packed p true = pk at *
 generalize EncEnd w (nodeText 1 p v K) 0 = P at HP ⊢
 generalize nodeText 1 p v K = S0 at *
 go_enter Tryz.func159,Tryz.ntmps159
 go_upto_region 1 with fail
 have SZ : (Tryz.prog.info? 117).map (·.size) = some (nodeV 1 p v K).length:=by rw [HSz.out]; exact info_node
 have F0 : Hid (Blk (w.alloc (.cells (nodeV 1 p v K).toArray 117)) w.heap.size 117 (nodeV 1 p v K).toArray ∧ Below w.heap.size w (w.alloc (.cells (nodeV 1 p v K).toArray 117))):=Lib.hid ⟨Blk.new _ _ _,by go_grown⟩
 generalize w.alloc (.cells (nodeV 1 p v K).toArray 117) = W0 at F0 ⊢
 have HB:=Lib.hid (show w.heap.size < W0.heap.size from F0.out.1.lt)
 obtain ⟨_,_,_,_,RA⟩:=NodeAt.of (C := []) (by rw [List.append_nil]; exact F0.out.1)
 generalize hB : w.heap.size = B at *
 clear hB
 go_upto_region 2 with (first | (refine wpList_load_mid rfl 117 _ rfl B 0 rfl _ _ RA Tryz.underlying117 rfl SZ ?_) | (go_at_call 115; refine (HC _).mono ?_; rintro e w1 ⟨rfl,hb⟩))
 have F1:=Lib.hid (show Below B w w1 from F0.out.2.trans (hb.mono (Nat.le_of_lt HB.out)))
 have HB1:=Lib.hid (Nat.lt_of_lt_of_le HB.out hb.size)
 have BK1:=Lib.hid (F0.out.1.below hb HB.out)
 clear hb F0 RA HB
 obtain ⟨q0,q1,q2,RK,RA⟩:=NodeAt.of (C := []) (by rw [List.append_nil]; exact BK1.out)
 have cv:=conv1 w1 1 (by omega) (by omega)
 go_upto_region 5 with fail
 have F2 : Hid (Blk (w1.alloc (.cells #[.int .u8 1] 5)) B 117 (nodeV 1 p v K).toArray ∧ Below B w (w1.alloc (.cells #[.int .u8 1] 5)) ∧ B < (w1.alloc (.cells #[.int .u8 1] 5)).heap.size):=Lib.hid ⟨BK1.out.alloc _,F1.out.alloc (Nat.le_of_lt HB1.out) _,by have:=HB1.out; simp; omega⟩
 clear cv q0 q1 q2 RK RA
 generalize w1.alloc (.cells #[.int .u8 1] 5) = w2 at F2 ⊢
 clear F1 HB1 BK1
 obtain ⟨q0,q1,q2,RK,_⟩:=NodeAt.of (C := []) (by rw [List.append_nil]; exact F2.out.1)
 go_upto_region 21 with (go_at_call 162; refine (HPk _ (by omega)).mono ?_; rintro e w3 ⟨rfl,hb⟩)
 have F3 : Hid (Blk w3 B 117 (nodeV 1 p v K).toArray ∧ Below B w w3 ∧ B < w3.heap.size):=Lib.hid ⟨F2.out.1.below hb F2.out.2.2,F2.out.2.1.trans (hb.mono (Nat.le_of_lt F2.out.2.2)),Nat.lt_of_lt_of_le F2.out.2.2 hb.size⟩
 clear hb q0 q1 q2 RK
 obtain ⟨q0,q1,q2,RK,_⟩:=NodeAt.of (C := []) (by rw [List.append_nil]; exact F3.out.1)
 go_upto_region 22 with (go_at_call 132; refine (HT2 _).mono ?_; rintro e w4 ⟨rfl,hb⟩)
 have F4 : Hid (Blk w4 B 117 (nodeV 1 p v K).toArray ∧ Below B w w4 ∧ B < w4.heap.size):=Lib.hid ⟨F3.out.1.below hb F3.out.2.2,F3.out.2.1.trans (hb.mono (Nat.le_of_lt F3.out.2.2)),Nat.lt_of_lt_of_le F3.out.2.2 hb.size⟩
 clear hb q0 q1 q2 RK
 obtain ⟨q0,q1,q2,RK,_⟩:=NodeAt.of (C := []) (by rw [List.append_nil]; exact F4.out.1)
 have hs1 : tp.length + tv.length ≤ 9223372036854775000:=by omega
 go_wp2_with (go_at_call 132; refine (HT _).mono ?_; rintro e w5 ⟨rfl,hb⟩)
 exact HP.out _ _ HF.out (F4.out.2.1.trans (hb.mono (Nat.le_of_lt F4.out.2.2)))
set_option maxRecDepth 100000 in
set_option maxHeartbeats 1000000 in
theorem encode_ext (p v : List UInt8) (K : List (List UInt8)) (hK : K.length = 16) (hKs : ∀ s ∈ K,s.length ≤ 9223372036854775807) (hf : fineN 2 p v K = true) (w : World) :
  Calls Tryz.prog 159 #[.agg (nodeV 2 p v K).toArray] w (EncEnd w (nodeText 2 p v K) 0):=by
 have hf2 : (Nib.fit p = true ∧ p.length ≤ 16) ∧ (K.getD 0 []).length = 32 ∧ v = []:=by
  simp only [fineN,pathOk,sumsOk] at hf
  simp at hf
  exact ⟨⟨hf.1.2.1,hf.1.2.2.2⟩,by simpa using hf.1.1.2,hf.2⟩
 obtain ⟨hf2a,hK0,rfl⟩:=hf2
 have hf2:=And.intro hf2a hf2a
 clear hf2a
 have HK0:=Lib.hid (strv_at (l:=K) (i:=0) (by omega))
 have HK1:=Lib.hid (show K[0]'(by omega) = K.getD 0 [] by rw [List.getD_eq_getElem?_getD,List.getElem?_eq_getElem (show 0 < K.length by omega)]; rfl)
 have HP : Hid (∀ s w',nodeText 2 p [] K = s → Below w.heap.size w w' → EncEnd w (nodeText 2 p [] K) 0 (.returned (.tuple #[.string ⟨s.toArray⟩,.int .i64 0])) w'):=Lib.hid (fun b w' h1 h2=>⟨by rw [h1],h2⟩)
 have HC:=node_Check 2 p [] (by omega) (by simp) K hK hKs
 rw [hf] at HC
 have hp16:=hf2.1.2
 have HPk:=nib_Pack p false
 rw [show Nib.pack p false = (Nib.packed p false,0) by unfold Nib.pack; rw [hf2.1.1]; rfl] at HPk
 have hpl:=Nib.packed_length p false
 have HT2:=code_Text (Nib.packed p false) (by omega)
 have HF : Hid (nodeText 2 p [] K = 2 :: (textW (Nib.packed p false) ++ K.getD 0 [])):=Lib.hid (by simp [nodeText])
 have hl2:=textW_len (Nib.packed p false) (by omega)
 have hl2' : (textW (Nib.packed p false)).length ≤ 1000:=by omega
 have HSz:=Lib.hid (nodeV_size (k:=2) (p:=p) (v := []) hK)
 clear hf hf2 hpl hl2
 generalize textW (Nib.packed p false) = tp at *
 generalize Nib.packed p false = pk at *
 generalize EncEnd w (nodeText 2 p [] K) 0 = P at HP ⊢
 generalize nodeText 2 p [] K = S0 at *
 go_enter Tryz.func159,Tryz.ntmps159
 go_upto_region 1 with fail
 have SZ : (Tryz.prog.info? 117).map (·.size) = some (nodeV 2 p [] K).length:=by rw [HSz.out]; exact info_node
 have F0 : Hid (Blk (w.alloc (.cells (nodeV 2 p [] K).toArray 117)) w.heap.size 117 (nodeV 2 p [] K).toArray ∧ Below w.heap.size w (w.alloc (.cells (nodeV 2 p [] K).toArray 117))):=Lib.hid ⟨Blk.new _ _ _,by go_grown⟩
 generalize w.alloc (.cells (nodeV 2 p [] K).toArray 117) = W0 at F0 ⊢
 have HB:=Lib.hid (show w.heap.size < W0.heap.size from F0.out.1.lt)
 obtain ⟨_,_,_,_,RA⟩:=NodeAt.of (C := []) (by rw [List.append_nil]; exact F0.out.1)
 generalize hB : w.heap.size = B at *
 clear hB
 go_upto_region 2 with (first | (refine wpList_load_mid rfl 117 _ rfl B 0 rfl _ _ RA Tryz.underlying117 rfl SZ ?_) | (go_at_call 115; refine (HC _).mono ?_; rintro e w1 ⟨rfl,hb⟩))
 have F1:=Lib.hid (show Below B w w1 from F0.out.2.trans (hb.mono (Nat.le_of_lt HB.out)))
 have HB1:=Lib.hid (Nat.lt_of_lt_of_le HB.out hb.size)
 have BK1:=Lib.hid (F0.out.1.below hb HB.out)
 clear hb F0 RA HB
 obtain ⟨q0,q1,q2,RK,RA⟩:=NodeAt.of (C := []) (by rw [List.append_nil]; exact BK1.out)
 have cv:=conv1 w1 2 (by omega) (by omega)
 go_upto_region 5 with fail
 have F2 : Hid (Blk (w1.alloc (.cells #[.int .u8 2] 5)) B 117 (nodeV 2 p [] K).toArray ∧ Below B w (w1.alloc (.cells #[.int .u8 2] 5)) ∧ B < (w1.alloc (.cells #[.int .u8 2] 5)).heap.size):=Lib.hid ⟨BK1.out.alloc _,F1.out.alloc (Nat.le_of_lt HB1.out) _,by have:=HB1.out; simp; omega⟩
 clear cv q0 q1 q2 RK RA
 generalize w1.alloc (.cells #[.int .u8 2] 5) = w2 at F2 ⊢
 clear F1 HB1 BK1
 obtain ⟨q0,q1,q2,RK,_⟩:=NodeAt.of (C := []) (by rw [List.append_nil]; exact F2.out.1)
 go_upto_region 21 with (go_at_call 162; refine (HPk _ (by omega)).mono ?_; rintro e w3 ⟨rfl,hb⟩)
 have F3 : Hid (Blk w3 B 117 (nodeV 2 p [] K).toArray ∧ Below B w w3 ∧ B < w3.heap.size):=Lib.hid ⟨F2.out.1.below hb F2.out.2.2,F2.out.2.1.trans (hb.mono (Nat.le_of_lt F2.out.2.2)),Nat.lt_of_lt_of_le F2.out.2.2 hb.size⟩
 clear hb q0 q1 q2 RK
 obtain ⟨q0,q1,q2,RK,_⟩:=NodeAt.of (C := []) (by rw [List.append_nil]; exact F3.out.1)
 go_upto_region 22 with (go_at_call 132; refine (HT2 _).mono ?_; rintro e w4 ⟨rfl,hb⟩)
 have F4 : Hid (Blk w4 B 117 (nodeV 2 p [] K).toArray ∧ Below B w w4 ∧ B < w4.heap.size):=Lib.hid ⟨F3.out.1.below hb F3.out.2.2,F3.out.2.1.trans (hb.mono (Nat.le_of_lt F3.out.2.2)),Nat.lt_of_lt_of_le F3.out.2.2 hb.size⟩
 clear hb q0 q1 q2 RK
 obtain ⟨q0,q1,q2,RK,_⟩:=NodeAt.of (C := []) (by rw [List.append_nil]; exact F4.out.1)
 have q3 : w4.cell? ⟨B,3,none⟩ = some (.string ⟨(K.getD 0 []).toArray⟩):=by
  have:=RK 0 _ HK0.out
  rwa [HK1.out] at this
 clear HK0 HK1
 generalize K.getD 0 [] = s0 at *
 have hs1 : tp.length + s0.length ≤ 9223372036854775000:=by omega
 go_wp2
 exact HP.out _ _ HF.out F4.out.2.1
theorem node_Encode (k : Nat) (p v : List UInt8) (K : List (List UInt8)) (hK : K.length = 16) (hKs : ∀ s ∈ K,s.length ≤ 9223372036854775807) (hf : fineN k p v K = true) (w : World) :
  Calls Tryz.prog 159 #[.agg (nodeV k p v K).toArray] w (EncEnd w (nodeText k p v K) 0):=by
 by_cases h1 : k = 1
 ·subst h1; exact encode_leaf p v K hK hKs hf w
 ·by_cases h2 : k = 2
  ·subst h2; exact encode_ext p v K hK hKs hf w
  ·by_cases h3 : k = 3
   ·subst h3
    have hp : p = []:=by simp [fineN] at hf; exact hf.1.1.1
    subst hp
    exact encode_branch v K hK hKs hf w
   ·simp [fineN,h1,h2,h3] at hf
theorem fineN_parts {k : Nat} {p v : List UInt8} {K : List (List UInt8)} (h : fineN k p v K = true) : (k = 1 ∨ k = 2 ∨ k = 3) ∧ Nib.fit p = true ∧ p.length ≤ 16 ∧ v.length ≤ 32 ∧ sumsOk (kidsW K) = true:=by
 unfold fineN at h
 split at h
 ·rename_i hk
  simp [pathOk] at h
  obtain ⟨⟨⟨h1,h2⟩,h3⟩,h4⟩:=h
  refine ⟨.inl hk,h2.1,h2.2,h4, ?_⟩
  rw [h1]; rfl
 ·split at h
  ·rename_i _ hk
   simp only [pathOk,Bool.and_eq_true,decide_eq_true_eq] at h
   obtain ⟨⟨⟨h1,h2⟩,h3⟩,h4⟩:=h
   have h4' : v = []:=by simpa using h4
   refine ⟨.inr (.inl hk),h3.1,h3.2.2,by rw [h4']; simp, ?_⟩
   rw [h1]
   generalize K.getD 0 [] = s at *
   have h5 : s.length = 32:=by simpa [sumsOk] using h2
   have h6 : s.isEmpty = false:=by cases s <;> simp_all
   simp [kidsW,sumsOk,h6,h5]
  ·split at h
   ·rename_i _ _ hk
    simp only [Bool.and_eq_true,decide_eq_true_eq] at h
    obtain ⟨⟨⟨h1,h2⟩,h3⟩,h4⟩:=h
    have h1' : p = []:=by simpa using h1
    subst h1'
    exact ⟨.inr (.inr hk),rfl,by simp,h4,h2⟩
   ·cases h
theorem fine_ext {p v : List UInt8} {K : List (List UInt8)} (h : fineN 2 p v K = true) : (K.getD 0 []).length = 32 ∧ K = K.getD 0 [] :: List.replicate 15 []:=by
 unfold fineN at h
 rw [if_neg (by omega),if_pos rfl] at h
 simp only [Bool.and_eq_true,decide_eq_true_eq] at h
 obtain ⟨⟨⟨h1,h2⟩,h3⟩,h4⟩:=h
 refine ⟨?_,h1⟩
 clear h1
 generalize K.getD 0 [] = s at *
 simpa [sumsOk] using h2
theorem nodeText_len {k : Nat} {p v : List UInt8} {K : List (List UInt8)} (hK : K.length = 16) (h : fineN k p v K = true) : (nodeText k p v K).length ≤ 700:=by
 obtain ⟨h1,h2,h3,h4,h5⟩:=fineN_parts h
 have hl1:=textW_len v (by omega)
 have hl2:=textW_len (Nib.packed p (decide (k = 1))) (by rw [Nib.packed_length]; omega)
 rw [Nib.packed_length] at hl2
 have hf:=flatten_len _ (kidsW_32 h5)
 have hk16 : (kidsW K).length ≤ 16:=by
  have:=List.length_filter_le (fun s : List UInt8 => !s.isEmpty) K
  unfold kidsW; omega
 have:=Nat.mul_le_mul_right 32 hk16
 unfold nodeText
 split
 ·simp only [List.length_cons,List.length_append]; omega
 ·rename_i hk3
  simp only [List.length_cons,List.length_append]
  split
  ·omega
  ·rename_i hk1
   have hk2 : k = 2:=by omega
   subst hk2
   have:=(fine_ext h).1
   omega
def nodeSum (k : Nat) (p v : List UInt8) (K : List (List UInt8)) : List UInt8:=shaW (1 :: nodeText k p v K)
def DigEnd (w : World) (s : List UInt8) (e : Ending) (w' : World) : Prop:=e = .returned (.string ⟨s.toArray⟩) ∧ Below w.heap.size w w'
set_option maxRecDepth 100000 in
set_option maxHeartbeats 1000000 in
theorem node_Digest (k : Nat) (p v : List UInt8) (K : List (List UInt8)) (hK : K.length = 16) (hKs : ∀ s ∈ K,s.length ≤ 9223372036854775807) (hf : fineN k p v K = true) (w : World) (hT : Tbl w) :
  Calls Tryz.prog 160 #[.agg (nodeV k p v K).toArray] w (DigEnd w (nodeSum k p v K)):=by
 have HP : Hid (∀ w',Below w.heap.size w w' → DigEnd w (nodeSum k p v K) (.returned (.string ⟨(nodeSum k p v K).toArray⟩)) w'):=Lib.hid (fun w' h2=>⟨rfl,h2⟩)
 have HC:=node_Encode k p v K hK hKs hf
 have hl:=nodeText_len hK hf
 have HD : ∀ w,Tbl w → Calls Tryz.prog 79 #[.int .i64 1,.string ⟨(nodeText k p v K).toArray⟩] w fun e w'=>e = .returned (.tuple #[.string ⟨(nodeSum k p v K).toArray⟩,.int .i64 0]) ∧ Below w.heap.size w w':=fun w h=>digest_Sum w 1 (by omega) (by omega) _ (by omega) h
 have HSz:=Lib.hid (nodeV_size (k:=k) (p:=p) (v:=v) hK)
 clear hf
 generalize DigEnd w (nodeSum k p v K) = P at HP ⊢
 generalize nodeSum k p v K = S at *
 generalize nodeText k p v K = T at *
 have HTb:=Lib.hid hT
 clear hT
 go_enter Tryz.func160,Tryz.ntmps160
 go_upto_region 1 with fail
 have SZ : (Tryz.prog.info? 117).map (·.size) = some (nodeV k p v K).length:=by rw [HSz.out]; exact info_node
 have F0 : Hid (Blk (w.alloc (.cells (nodeV k p v K).toArray 117)) w.heap.size 117 (nodeV k p v K).toArray ∧ Below w.heap.size w (w.alloc (.cells (nodeV k p v K).toArray 117))):=Lib.hid ⟨Blk.new _ _ _,by go_grown⟩
 generalize w.alloc (.cells (nodeV k p v K).toArray 117) = W0 at F0 ⊢
 have HB:=Lib.hid (show w.heap.size < W0.heap.size from F0.out.1.lt)
 obtain ⟨_,_,_,_,RA⟩:=NodeAt.of (C := []) (by rw [List.append_nil]; exact F0.out.1)
 have HT0 : Hid (Tbl W0):=Lib.hid (HTb.out.next F0.out.2)
 generalize hB : w.heap.size = B at *
 clear hB
 go_upto_region 2 with (first | (refine wpList_load_mid rfl 117 _ rfl B 0 rfl _ _ RA Tryz.underlying117 rfl SZ ?_) | (go_at_call 159; refine (HC _).mono ?_; rintro e w1 ⟨rfl,hb⟩))
 have F1:=Lib.hid (show Below B w w1 from F0.out.2.trans (hb.mono (Nat.le_of_lt HB.out)))
 have HB1:=Lib.hid (Nat.lt_of_lt_of_le HB.out hb.size)
 have HT1 : Hid (Tbl w1):=Lib.hid (HT0.out.next hb)
 clear hb RA
 go_wp2_with (go_at_call 79; refine (HD _ HT1.out).mono ?_; rintro e w2 ⟨rfl,hb⟩)
 exact HP.out _ (F1.out.trans (hb.mono (Nat.le_of_lt HB1.out)))
end Go.Proofs.YtomnlhbioijfhaaGreatDoor
namespace Go.Proofs.YtomnlhbioijfhaaGreatDoor
namespace Trie
open Nib
inductive T where
 | nil
 | leaf (p v : List UInt8)
 | ext (p : List UInt8) (t : T)
 | branch (v : List UInt8) (kids : Fin 16 → T)
def isNil : T → Bool
 | .nil=>true
 | _=>false
def isBranch : T → Bool
 | .branch _ _=>true
 | _=>false
def ix (b : UInt8) : Fin 16:=⟨b.toNat % 16,Nat.mod_lt _ (by omega)⟩
def setKid (kids : Fin 16 → T) (b : UInt8) (t : T) : Fin 16 → T:=fun i=>if i = ix b then t else kids i
def noKids : Fin 16 → T:=fun _=>.nil
def look : T → List UInt8 → List UInt8
 | .nil,_ => []
 | .leaf p v,q=>if q = p then v else []
 | .ext p t,q=>if common p q = p.length then look t (q.drop p.length) else []
 | .branch v kids,q=>match q with
  | []=>v
  | b :: r=>look (kids (ix b)) r
def joined (path : List UInt8) (t : T) : T :=
 if path = [] then t else match t with
  | .leaf p v=>.leaf (path ++ p) v
  | .ext p s=>.ext (path ++ p) s
  | t=>.ext path t
def oneOwn (old : List UInt8) (w : List UInt8) : List UInt8:=match old with
 | []=>w
 | _ :: _ => []
def oneKids (old : List UInt8) (f : List UInt8 → T) : Fin 16 → T:=match old with
 | []=>noKids
 | b :: r=>setKid noKids b (f r)
def partedG (old : List UInt8) (f : List UInt8 → T) (w path v : List UInt8) : T:=match path with
 | []=>.branch v (oneKids old f)
 | b :: r=>.branch (oneOwn old w) (setKid (oneKids old f) b (.leaf r v))
def parted (t : T) (c : Nat) (path v : List UInt8) : T:=match t with
 | .leaf p w=>partedG (p.drop c) (fun r=>.leaf r w) w path v
 | .ext p s=>partedG (p.drop c) (fun r=>joined r s) [] path v
 | t=>t
def put : T → List UInt8 → List UInt8 → T
 | .nil,q,v=>.leaf q v
 | .branch w kids,q,v=>match q with
  | []=>.branch v kids
  | b :: r=>.branch w (setKid kids b (put (kids (ix b)) r v))
 | .ext p t,q,v=>if common p q = p.length then joined p (put t (q.drop (common p q)) v) else joined (q.take (common p q)) (parted (.ext p t) (common p q) (q.drop (common p q)) v)
 | .leaf p w,q,v=>if common p q = p.length ∧ common p q = q.length then .leaf q v else joined (q.take (common p q)) (parted (.leaf p w) (common p q) (q.drop (common p q)) v)
def many (kids : Fin 16 → T) : Nat:=((List.finRange 16).filter fun i => !isNil (kids i)).length
def lastKid (kids : Fin 16 → T) : Fin 16:=(((List.finRange 16).filter fun i => !isNil (kids i)).getLast?).getD 0
def shrunk (v : List UInt8) (kids : Fin 16 → T) : T :=
 if many kids = 0 then .leaf [] v
 else if many kids = 1 ∧ v = [] then joined [UInt8.ofNat (lastKid kids).val] (kids (lastKid kids))
 else .branch v kids
def del : T → List UInt8 → T
 | .nil,_=>.nil
 | .leaf _ _,_=>.nil
 | .ext p t,q=>joined p (del t (q.drop p.length))
 | .branch v kids,q=>match q with
  | []=>shrunk [] kids
  | b :: r=>shrunk v (setKid kids b (del (kids (ix b)) r))
def wf : T → Prop
 | .nil=>True
 | .leaf p v=>fit p = true ∧ v ≠ []
 | .ext p t=>fit p = true ∧ p ≠ [] ∧ isBranch t = true ∧ wf t
 | .branch v kids=>(∀ i,wf (kids i)) ∧ 2 ≤ many kids + (if v = [] then 0 else 1)
theorem fit_append {a b : List UInt8} : fit (a ++ b) = true ↔ fit a = true ∧ fit b = true:=by
 unfold fit; rw [List.all_append,Bool.and_eq_true]
theorem fit_cons' {a : UInt8} {r : List UInt8} : fit (a :: r) = true ↔ a ≤ 15 ∧ fit r = true:=by
 unfold fit; simp
theorem fit_drop {a : List UInt8} (n : Nat) (h : fit a = true) : fit (a.drop n) = true:=by
 have : fit (a.take n ++ a.drop n) = true:=by rw [List.take_append_drop]; exact h
 exact (fit_append.1 this).2
theorem fit_take {a : List UInt8} (n : Nat) (h : fit a = true) : fit (a.take n) = true:=by
 have : fit (a.take n ++ a.drop n) = true:=by rw [List.take_append_drop]; exact h
 exact (fit_append.1 this).1
theorem ix_of (i : Fin 16) : ix (UInt8.ofNat i.val) = i ∧ UInt8.ofNat i.val ≤ 15:=by
 have:=i.isLt
 constructor
 ·apply Fin.ext; simp [ix]
 ·rw [UInt8.le_iff_toNat_le]; simp; omega
theorem ix_inj {a b : UInt8} (ha : a ≤ 15) (hb : b ≤ 15) (h : ix a = ix b) : a = b:=by
 rw [UInt8.le_iff_toNat_le] at ha hb
 simp at ha hb
 have:=congrArg Fin.val h
 simp [ix] at this
 exact UInt8.toNat_inj.1 (by omega)
theorem prefix_common {p q : List UInt8} : common p q = p.length ↔ q = p ++ q.drop p.length:=by
 constructor
 ·intro h
  have h1:=(common_take p q p.length).1 (by omega)
  conv=>lhs; rw [← List.take_append_drop p.length q,← h1.2.2]
  simp
 ·intro h
  have hcl:=common_le p q
  have : p.length ≤ common p q:=by
   rw [common_take]
   refine ⟨Nat.le_refl _, ?_, ?_⟩
   ·rw [h]; simp
   ·rw [h]; simp
  omega
theorem common_self_append (p r : List UInt8) : common p (p ++ r) = p.length:=prefix_common.2 (by simp)
theorem many_two {kids : Fin 16 → T} {v : List UInt8} (h : 2 ≤ many kids + (if v = [] then 0 else 1)) (b : UInt8) : v ≠ [] ∨ ∃ i,i ≠ ix b ∧ isNil (kids i) = false:=by
 by_cases hv : v = []
 ·right
  rw [if_pos hv] at h
  unfold many at h
  have hn : ((List.finRange 16).filter fun i => !isNil (kids i)).Nodup:=(List.nodup_finRange 16).sublist List.filter_sublist
  generalize hl : ((List.finRange 16).filter fun i => !isNil (kids i)) = l at *
  have hmem : ∀ i ∈ l,isNil (kids i) = false:=by
   intro i hi
   rw [← hl,List.mem_filter] at hi
   simpa using hi.2
  match l,h,hn with
  | x :: y :: l,_,hn =>
   by_cases hx : x = ix b
   ·refine ⟨y,fun e => ?_,hmem y (by simp)⟩
    rw [List.nodup_cons] at hn
    exact hn.1 (by rw [hx,← e]; simp)
   ·exact ⟨x,hx,hmem x (by simp)⟩
 ·exact .inl hv
theorem look_some (t : T) : wf t → isNil t = false → ∃ q,fit q = true ∧ look t q ≠ []:=by
 induction t with
 | nil=>intro _ h; simp [isNil] at h
 | leaf p v=>intro h _; exact ⟨p,h.1,by simp [look]; exact h.2⟩
 | ext p t ih =>
  intro h _
  obtain ⟨h1,h2,h3,h4⟩:=h
  obtain ⟨q,g1,g2⟩:=ih h4 (by cases t <;> simp_all [isBranch,isNil])
  refine ⟨p ++ q,fit_append.2 ⟨h1,g1⟩, ?_⟩
  simp only [look,common_self_append,if_pos]
  simpa using g2
 | branch v kids ih =>
  intro h _
  rcases many_two h.2 0 with hv | ⟨i,_,hi⟩
  ·exact ⟨[],rfl,hv⟩
  ·obtain ⟨q,g1,g2⟩:=ih i (h.1 i) hi
   obtain ⟨e1,e2⟩:=ix_of i
   exact ⟨UInt8.ofNat i.val :: q,fit_cons'.2 ⟨e2,g1⟩,by simp only [look,e1]; exact g2⟩
theorem branch_of {t : T} (h : isBranch t = true) : ∃ v kids,t = .branch v kids:=by
 cases t with
 | branch v kids=>exact ⟨v,kids,rfl⟩
 | nil=>simp [isBranch] at h
 | leaf _ _=>simp [isBranch] at h
 | ext _ _=>simp [isBranch] at h
theorem look_ext_some {p : List UInt8} {t : T} {q : List UInt8} (h : look (.ext p t) q ≠ []) : q = p ++ q.drop p.length ∧ look t (q.drop p.length) ≠ []:=by
 simp only [look] at h
 split at h
 ·rename_i hc; exact ⟨prefix_common.1 hc,h⟩
 ·exact absurd rfl h
theorem look_ext (p : List UInt8) (t : T) (r : List UInt8) : look (.ext p t) (p ++ r) = look t r:=by
 simp [look,common_self_append]
end Trie
end Go.Proofs.YtomnlhbioijfhaaGreatDoor
