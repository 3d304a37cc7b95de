import Derived.Test.YtomnlhbioijfhaaGreatDoorJ23
set_option linter.unusedSimpArgs false
set_option linter.unusedVariables false
namespace Go.Proofs.YtomnlhbioijfhaaGreatDoor
open Go.RowKit Go.Instr
attribute [local go_sem] ba_get ByteArray.mk_append_mk
def fineR (k : Nat) (p v : List UInt8) (K : List (List UInt8)) : Bool :=
  sumsOk (kidsW K) && (Nib.fit p && (decide (p.length ≤ 16) && (decide (v.length ≤ 32) &&
    (if k = 1 then decide ((kidsW K).length = 0) && !v.isEmpty
     else if k = 2 then decide ((kidsW K).length = 1) && (!(K.getD 0 []).isEmpty && (decide (1 ≤ p.length) && v.isEmpty))
     else if k = 3 then decide (p.length = 0) && (decide (2 ≤ (kidsW K).length) || (decide ((kidsW K).length = 1) && !v.isEmpty)) else false))))
theorem kidsW_nil_of {K : List (List UInt8)} (h : (kidsW K).length = 0) : K = List.replicate K.length []:=by
 induction K with
 | nil=>rfl
 | cons a t ih =>
  unfold kidsW at h ih
  rw [List.filter_cons] at h
  cases a with
  | nil =>
   simp only [List.isEmpty_nil,Bool.not_true,Bool.false_eq_true,if_false] at h
   rw [List.length_cons,List.replicate_succ,← ih h]
  | cons x y=>simp at h
theorem kidsW_rep (n : Nat) : kidsW (List.replicate n ([] : List UInt8)) = []:=by
 unfold kidsW; simp
theorem fineR_eq (k : Nat) (p v : List UInt8) (K : List (List UInt8)) (hK : K.length = 16) : fineR k p v K = fineN k p v K:=by
 unfold fineR fineN
 by_cases h1 : k = 1
 ·rw [if_pos h1,if_pos h1]
  by_cases hk : K = List.replicate 16 []
  ·subst hk
   rw [kidsW_rep]
   simp only [pathOk,sumsOk,List.all_nil,Bool.true_and,List.length_nil,decide_true]
   by_cases hp : p.length ≤ 16 <;> by_cases hv : v.length ≤ 32 <;> cases Nib.fit p <;> cases v.isEmpty <;> simp [hp,hv]
  ·have h0 : (kidsW K).length ≠ 0:=fun h=>hk (by rw [← hK]; exact kidsW_nil_of h)
   rw [decide_eq_false h0,decide_eq_false hk]
   simp
 ·rw [if_neg h1,if_neg h1]
  by_cases h2 : k = 2
  ·rw [if_pos h2,if_pos h2]
   obtain ⟨a,t,rfl⟩ : ∃ a t,K = a :: t:=by cases K with
    | nil=>cases hK
    | cons a t=>exact ⟨a,t,rfl⟩
   rw [List.getD_cons_zero]
   have ht : t.length = 15:=by simpa using hK
   cases a with
   | nil =>
    simp [sumsOk]
   | cons x y =>
    have ek : kidsW ((x :: y) :: t) = (x :: y) :: kidsW t:=by simp [kidsW]
    rw [ek]
    by_cases hk : kidsW t = []
    ·have e2 : t = List.replicate 15 []:=by rw [← ht]; exact kidsW_nil_of (by rw [hk]; rfl)
     rw [hk]
     subst e2
     simp only [pathOk,decide_true,Bool.true_and,List.length_cons,List.length_nil,List.isEmpty_cons,Bool.not_false]
     cases v with
     | nil =>
      by_cases hp : 1 ≤ p.length
      ·by_cases hq : p.length ≤ 16
       ·simp [hp,hq]
       ·simp [hp,hq]
      ·simp [hp]
     | cons=>simp
    ·have h0 : ¬ ((x :: y) :: kidsW t).length = 1:=by
      intro h; apply hk; exact List.eq_nil_of_length_eq_zero (by simpa using h)
     have e2 : ¬ ((x :: y) :: t) = (x :: y) :: List.replicate 15 []:=by
      intro h
      injection h with _ h
      apply hk; rw [h]; exact kidsW_rep 15
     rw [decide_eq_false h0,decide_eq_false e2]
     simp
  ·rw [if_neg h2,if_neg h2]
   by_cases h3 : k = 3
   ·rw [if_pos h3,if_pos h3]
    cases p with
    | nil =>
     simp only [List.length_nil,Nib.fit,List.all_nil,Nat.zero_le,decide_true,Bool.true_and,List.isEmpty_nil]
     cases sumsOk (kidsW K) <;> cases v with
     | nil=>simp
     | cons x y =>
      simp only [List.isEmpty_cons,Bool.false_eq_true,if_false,Bool.not_false,Bool.and_true,Bool.true_and,Bool.false_and]
      try (rw [Bool.and_comm]; congr 1; rw [Bool.eq_iff_iff]; simp; omega)
    | cons x y=>simp
   ·rw [if_neg h3,if_neg h3]; simp
set_option maxRecDepth 100000 in
set_option maxHeartbeats 1000000 in
theorem reffine_loop (w0 : World) (B : Nat) (D : List (List UInt8)) (hD : D.length ≤ 16) (A : Option Addr) (c : Nat) (HR : Reads w0 w0.heap.size 1 A D.length (strv D))
  (Q : Exit → Act → World → Prop)
  (hQ : sumsOk D = true → ∀ (s0 s2 s4 s5 s6 s7 s8 s9 s10 s11 s12 s13 s14 s15 s16 s17 s18 s19 s20 s21 s22 s23 s24 s25 s26 s27 s28 s29 s30 s31 s32 s33 s34 s35 s36 s37 s38 s39 s40 s41 s42 s43 s44 s45 s46 s47 s48 s49 s50 s51 s52 s53 s54 s55 s56 s57 s58 s59 s60 s61 s62 s63 s64 s65 s66 s67 s68 s69 s70 s71 s72 s73 s74 s75 s76 s77 s78 s79 s80 s81 s82 s83 s84 s85 s86 s87 : Value),Q (.exit 0) { tmps:=#[s0,.pointer (some ⟨B,0,none⟩),s2,.slice A D.length c,s4,s5,s6,s7,s8,s9,s10,s11,s12,s13,s14,s15,s16,s17,s18,s19,s20,s21,s22,s23,s24,s25,s26,s27,s28,s29,s30,s31,s32,s33,s34,s35,s36,s37,s38,s39,s40,s41,s42,s43,s44,s45,s46,s47,s48,s49,s50,s51,s52,s53,s54,s55,s56,s57,s58,s59,s60,s61,s62,s63,s64,s65,s66,s67,s68,s69,s70,s71,s72,s73,s74,s75,s76,s77,s78,s79,s80,s81,s82,s83,s84,s85,s86,s87],defers := [] } w0)
  (hR : sumsOk D = false → ∀ (s0 s1 s3 s4 s5 s6 s7 s8 s9 s10 s11 s12 s13 s14 s15 s16 s17 s18 s19 s20 s21 s22 s23 s24 s25 s26 s27 s28 s29 s30 s31 s32 s33 s34 s35 s36 s37 s38 s39 s40 s41 s42 s43 s44 s45 s46 s47 s48 s49 s50 s51 s52 s53 s54 s55 s56 s57 s58 s59 s60 s61 s62 s63 s64 s65 s66 s67 s68 s69 s70 s71 s72 s73 s74 s75 s76 s77 s78 s79 s80 s81 s82 s83 s84 s85 s86 s87 : Value),Q .ret { tmps:=#[s0,s1,.bool false,s3,s4,s5,s6,s7,s8,s9,s10,s11,s12,s13,s14,s15,s16,s17,s18,s19,s20,s21,s22,s23,s24,s25,s26,s27,s28,s29,s30,s31,s32,s33,s34,s35,s36,s37,s38,s39,s40,s41,s42,s43,s44,s45,s46,s47,s48,s49,s50,s51,s52,s53,s54,s55,s56,s57,s58,s59,s60,s61,s62,s63,s64,s65,s66,s67,s68,s69,s70,s71,s72,s73,s74,s75,s76,s77,s78,s79,s80,s81,s82,s83,s84,s85,s86,s87],defers := [] } w0)
  (s0 s2 s5 s6 s7 s8 s9 s10 s11 s12 s13 s14 s15 s16 s17 s18 s19 s20 s21 s22 s23 s24 s25 s26 s27 s28 s29 s30 s31 s32 s33 s34 s35 s36 s37 s38 s39 s40 s41 s42 s43 s44 s45 s46 s47 s48 s49 s50 s51 s52 s53 s54 s55 s56 s57 s58 s59 s60 s61 s62 s63 s64 s65 s66 s67 s68 s69 s70 s71 s72 s73 s74 s75 s76 s77 s78 s79 s80 s81 s82 s83 s84 s85 s86 s87 : Value) :
  Code.wp Tryz.prog (.loop (loopAt Tryz.f122 0)) Q { tmps:=#[s0,.pointer (some ⟨B,0,none⟩),s2,.slice A D.length c,.int .i64 0,s5,s6,s7,s8,s9,s10,s11,s12,s13,s14,s15,s16,s17,s18,s19,s20,s21,s22,s23,s24,s25,s26,s27,s28,s29,s30,s31,s32,s33,s34,s35,s36,s37,s38,s39,s40,s41,s42,s43,s44,s45,s46,s47,s48,s49,s50,s51,s52,s53,s54,s55,s56,s57,s58,s59,s60,s61,s62,s63,s64,s65,s66,s67,s68,s69,s70,s71,s72,s73,s74,s75,s76,s77,s78,s79,s80,s81,s82,s83,s84,s85,s86,s87],defers := [] } w0:=by
 have HQ:=Lib.hid hQ
 have HT:=Lib.hid hR
 clear hQ hR
 refine wp_loop_ghost_k (fun k a wr => ∀ Φ : Act → Prop,(∀ (s0 s2 s5 s6 s7 s8 s9 s10 s11 s12 s13 s14 s15 s16 s17 s18 s19 s20 s21 s22 s23 s24 s25 s26 s27 s28 s29 s30 s31 s32 s33 s34 s35 s36 s37 s38 s39 s40 s41 s42 s43 s44 s45 s46 s47 s48 s49 s50 s51 s52 s53 s54 s55 s56 s57 s58 s59 s60 s61 s62 s63 s64 s65 s66 s67 s68 s69 s70 s71 s72 s73 s74 s75 s76 s77 s78 s79 s80 s81 s82 s83 s84 s85 s86 s87 : Value) (i : Nat),(i + k = D.length ∧ sumsOk (D.take i) = true ∧ wr = w0) → Φ { tmps:=#[s0,.pointer (some ⟨B,0,none⟩),s2,.slice A D.length c,.int .i64 i,s5,s6,s7,s8,s9,s10,s11,s12,s13,s14,s15,s16,s17,s18,s19,s20,s21,s22,s23,s24,s25,s26,s27,s28,s29,s30,s31,s32,s33,s34,s35,s36,s37,s38,s39,s40,s41,s42,s43,s44,s45,s46,s47,s48,s49,s50,s51,s52,s53,s54,s55,s56,s57,s58,s59,s60,s61,s62,s63,s64,s65,s66,s67,s68,s69,s70,s71,s72,s73,s74,s75,s76,s77,s78,s79,s80,s81,s82,s83,s84,s85,s86,s87],defers := [] }) → Φ a) (D.length) ?_ ?_
 ·refine fun Φ hΦ=>hΦ _ _ _ _ _ _ _ _ _ _ _ _ _ _ _ _ _ _ _ _ _ _ _ _ _ _ _ _ _ _ _ _ _ _ _ _ _ _ _ _ _ _ _ _ _ _ _ _ _ _ _ _ _ _ _ _ _ _ _ _ _ _ _ _ _ _ _ _ _ _ _ _ _ _ _ _ _ _ _ _ _ _ _ _ _ (0) ?_
  exact ⟨by omega,rfl,rfl⟩
 ·intro k1 a1 wr1 hI1 J1 K1 hJ1 hK1
  refine hI1 (fun a=>Code.wp _ _ _ a _) ?_
  clear hI1 a1
  intro s0 s1 s2 s3 s4 s5 s6 s7 s8 s9 s10 s11 s12 s13 s14 s15 s16 s17 s18 s19 s20 s21 s22 s23 s24 s25 s26 s27 s28 s29 s30 s31 s32 s33 s34 s35 s36 s37 s38 s39 s40 s41 s42 s43 s44 s45 s46 s47 s48 s49 s50 s51 s52 s53 s54 s55 s56 s57 s58 s59 s60 s61 s62 s63 s64 s65 s66 s67 s68 s69 s70 s71 s72 s73 s74 s75 s76 s77 s78 s79 s80 s81 s82 s83 s84 i hrel
  show Code.wp _ _ _ _ _
  conv=>arg 2; whnf
  obtain ⟨h1,h2,rfl⟩:=hrel
  by_cases hi : i < D.length
  ·obtain ⟨ad,rfl,hbl,hcell⟩:=HR.2 (by omega)
   have q0:=hcell i _ (strv_at hi)
   have hi1 : (i : Int) < D.length:=by omega
   have hs : sumsOk (D.take (i + 1)) = decide (D[i].length = 32):=by
    rw [List.take_succ_eq_append_getElem hi]
    unfold sumsOk at *
    rw [List.all_append,h2]
    simp
   have hf : decide (D[i].length = 32) = false → sumsOk D = false:=fun h=>by
    rw [Bool.eq_false_iff]
    intro hc
    unfold sumsOk at hc
    rw [List.all_eq_true] at hc
    have:=hc _ (List.getElem_mem hi)
    rw [h] at this
    cases this
   clear hcell HR
   generalize D[i] = s at *
   by_cases h32 : s.length = 32
   ·have e32 : ((s.length : Int) = 32) = True:=by simp; omega
    have T:=Lib.hid (show sumsOk (D.take (i + 1)) = true from hs.trans (by simp [h32]))
    clear hs hf
    go_wp2
    refine Handed.intro (D.length - (i + 1)) ?_ (hJ1 _ _ _ (fun Φ hΦ=>hΦ _ _ _ _ _ _ _ _ _ _ _ _ _ _ _ _ _ _ _ _ _ _ _ _ _ _ _ _ _ _ _ _ _ _ _ _ _ _ _ _ _ _ _ _ _ _ _ _ _ _ _ _ _ _ _ _ _ _ _ _ _ _ _ _ _ _ _ _ _ _ _ _ _ _ _ _ _ _ _ _ _ _ _ _ _ (i + 1) ?_))
    ·omega
    ·exact ⟨by omega,T.out,rfl⟩
   ·have e32 : ((s.length : Int) = 32) = False:=by simp; omega
    have T:=Lib.hid (hf (by simp [h32]))
    clear hs hf
    go_wp2
    exact HT.out T.out _ _ _ _ _ _ _ _ _ _ _ _ _ _ _ _ _ _ _ _ _ _ _ _ _ _ _ _ _ _ _ _ _ _ _ _ _ _ _ _ _ _ _ _ _ _ _ _ _ _ _ _ _ _ _ _ _ _ _ _ _ _ _ _ _ _ _ _ _ _ _ _ _ _ _ _ _ _ _ _ _ _ _ _ _ _ _
  ·have e : D.take i = D:=List.take_of_length_le (by omega)
   have hi2 : ((i : Int) < D.length) = False:=by simp; omega
   rw [e] at h2
   have E2:=Lib.hid h2
   clear h2 e
   go_wp2
   exact HQ.out E2.out _ _ _ _ _ _ _ _ _ _ _ _ _ _ _ _ _ _ _ _ _ _ _ _ _ _ _ _ _ _ _ _ _ _ _ _ _ _ _ _ _ _ _ _ _ _ _ _ _ _ _ _ _ _ _ _ _ _ _ _ _ _ _ _ _ _ _ _ _ _ _ _ _ _ _ _ _ _ _ _ _ _ _ _ _ _
set_option maxRecDepth 100000 in
set_option maxHeartbeats 4000000 in
theorem ref08_Fine (w : World) (k : Nat) (p v : List UInt8) (K : List (List UInt8)) (hK : K.length = 16) (hp : p.length ≤ 1048576) :
  Calls Tryz.prog 122 #[.agg (nodeV k p v K).toArray] w (Ret w (.bool (fineR k p v K))):=by
 have HP : Hid (∀ b w',fineR k p v K = b → Below w.heap.size w w' → Ret w (.bool (fineR k p v K)) (Ending.returned (.bool b)) w'):=Lib.hid (fun b w' h h2=>by rw [h]; exact ⟨rfl,h2⟩)
 have HX : Hid (fineR k p v K = _):=Lib.hid (show fineR k p v K = _ by unfold fineR; rfl)
 generalize Ret w (.bool (fineR k p v K)) = P at HP ⊢
 generalize fineR k p v K = X at HP HX
 have HC:=Lib.hid (fun W=>ref08_Kids W k p v K hK)
 have HFit:=Lib.hid (fun W=>refnib_Fit p W hp)
 have HK16 : Hid ((kidsW K).length ≤ 16):=Lib.hid (by have:=List.length_filter_le (fun s : List UInt8 => !s.isEmpty) K; unfold kidsW; omega)
 have HK0 : Hid ((strv K)[0]? = some (.string ⟨(K.getD 0 []).toArray⟩)):=Lib.hid (by
  rw [strv_at (show 0 < K.length by omega),List.getD_eq_getElem?_getD,List.getElem?_eq_getElem (show 0 < K.length by omega)]; rfl)
 go_enter Tryz.func122,Tryz.ntmps122
 go_upto_region 1 with fail
 have SZ : (Tryz.prog.info? 117).map (·.size) = some (nodeV k p v K).length:=by rw [nodeV_size hK]; exact info_node
 have F:=Live.ha (Lib.hid (Live.start w)) (nodeV k p v K).toArray 117
 generalize w.alloc (.cells (nodeV k p v K).toArray 117) = W0 at F ⊢
 obtain ⟨_,_,_,_,RA⟩:=NodeAt.of (C := []) (by rw [List.append_nil]; exact F.out.blk 0 rfl)
 go_upto_region 2 with (first | (refine wpList_load_mid rfl 117 _ rfl w.heap.size 0 rfl _ _ RA Tryz.underlying117 rfl SZ ?_) | (go_at_call 149; refine (HC.out _).mono ?_; rintro e w1 ⟨A,c,n,rfl,rfl,own,hb⟩))
 have OWN:=Lib.hid own
 (first | have F:=Live.hb F hb | have F:=Live.hbd F hb); clear hb
 clear RA SZ own
 obtain ⟨q0,q1,q2,RK,_⟩:=NodeAt.of (C := []) (by rw [List.append_nil]; exact F.out.blk 0 rfl)
 go_upto_region 3 with fail
 refine reffine_loop w1 w.heap.size (kidsW K) HK16.out A c (Reads.of_own OWN.out) _ ?_ ?_ _ _ _ _ _ _ _ _ _ _ _ _ _ _ _ _ _ _ _ _ _ _ _ _ _ _ _ _ _ _ _ _ _ _ _ _ _ _ _ _ _ _ _ _ _ _ _ _ _ _ _ _ _ _ _ _ _ _ _ _ _ _ _ _ _ _ _ _ _ _ _ _ _ _ _ _ _ _ _ _ _ _ _ _ _
 ·intro hs s0 s2 s4 s5 s6 s7 s8 s9 s10 s11 s12 s13 s14 s15 s16 s17 s18 s19 s20 s21 s22 s23 s24 s25 s26 s27 s28 s29 s30 s31 s32 s33 s34 s35 s36 s37 s38 s39 s40 s41 s42 s43 s44 s45 s46 s47 s48 s49 s50 s51 s52 s53 s54 s55 s56 s57 s58 s59 s60 s61 s62 s63 s64 s65 s66 s67 s68 s69 s70 s71 s72 s73 s74 s75 s76 s77 s78 s79 s80 s81 s82 s83 s84 s85 s86 s87
  rw [hs,Bool.true_and] at HX
  have q3 : w1.cell? ⟨w.heap.size,3,none⟩ = some (.string ⟨(K.getD 0 []).toArray⟩):=RK 0 _ HK0.out
  clear hs hp OWN HC RK
  generalize (kidsW K).length = n at *
  generalize K.getD 0 [] = k0 at *
  generalize Nib.fit p = ft at *
  cases ft with
  | false =>
   go_wp2_with (go_at_call 124; refine (HFit.out _).mono ?_; rintro e w2 ⟨rfl,rfl⟩)
   all_goals (refine HP.out _ _ ?_ F.out.b; rw [HX.out]; clear HP HX F HFit HK0 q0 q1 q2 q3; first | (simp; done) | (simp_all; done) | ((try simp only [beq_iff_eq,beq_eq_false_iff_ne,ne_eq] at *); (try norm_cast at *); first | (simp_all; done) | (simp_all; omega)))
  | true =>
   go_wp2_with (go_at_call 124; refine (HFit.out _).mono ?_; rintro e w2 ⟨rfl,rfl⟩)
   all_goals (refine HP.out _ _ ?_ F.out.b; rw [HX.out]; clear HP HX F HFit HK0 q0 q1 q2 q3; first | (simp; done) | (simp_all; done) | ((try simp only [beq_iff_eq,beq_eq_false_iff_ne,ne_eq] at *); (try norm_cast at *); first | (simp_all; done) | (simp_all; omega)))
 ·intro hs s0 s1 s3 s4 s5 s6 s7 s8 s9 s10 s11 s12 s13 s14 s15 s16 s17 s18 s19 s20 s21 s22 s23 s24 s25 s26 s27 s28 s29 s30 s31 s32 s33 s34 s35 s36 s37 s38 s39 s40 s41 s42 s43 s44 s45 s46 s47 s48 s49 s50 s51 s52 s53 s54 s55 s56 s57 s58 s59 s60 s61 s62 s63 s64 s65 s66 s67 s68 s69 s70 s71 s72 s73 s74 s75 s76 s77 s78 s79 s80 s81 s82 s83 s84 s85 s86 s87
  have hx : X = false:=by rw [HX.out,hs]; rfl
  go_wp2
  exact HP.out _ _ hx F.out.b
end Go.Proofs.YtomnlhbioijfhaaGreatDoor
