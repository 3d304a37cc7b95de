import Derived.Test.YtomnlhbioijfhaaGreatDoorJ28
import Derived.Test.YtomnlhbioijfhaaGreatDoorJ23
import Derived.Test.YtomnlhbioijfhaaGreatDoorJ26
import Derived.Test.YtomnlhbioijfhaaGreatDoorJ12
import Derived.Test.YtomnlhbioijfhaaGreatDoorJ01
set_option linter.unusedSimpArgs false
set_option linter.unusedVariables false
namespace Go.Proofs.YtomnlhbioijfhaaGreatDoor
open Go.RowKit Go.Instr
attribute [local go_sem] ba_get ByteArray.mk_append_mk
def bitK (K : List (List UInt8)) (i : Nat) : Nat:=if (K.getD i []).isEmpty then 0 else 1
def hiTo (K : List (List UInt8)) : Nat → Nat
 | 0=>0
 | i + 1=>if i < 8 then hiTo K i * 2 + bitK K i else hiTo K i
def loTo (K : List (List UInt8)) : Nat → Nat
 | 0=>0
 | i + 1=>if i < 8 then loTo K i else loTo K i * 2 + bitK K i
theorem bitK_le (K : List (List UInt8)) (i : Nat) : bitK K i ≤ 1:=by unfold bitK; split <;> omega
theorem bit_pow (K : List (List UInt8)) (i n : Nat) : (if (K.getD i []).isEmpty then 0 else n) = bitK K i * n:=by unfold bitK; split <;> simp
theorem hilo (K : List (List UInt8)) : bitsTo K 16 / 256 = hiTo K 16 ∧ bitsTo K 16 % 256 = loTo K 16:=by
 simp only [bitsTo,hiTo,loTo,bit_pow]
 have h:=bitK_le K
 have h0:=h 0
 have h1:=h 1
 have h2:=h 2
 have h3:=h 3
 have h4:=h 4
 have h5:=h 5
 have h6:=h 6
 have h7:=h 7
 have h8:=h 8
 have h9:=h 9
 have h10:=h 10
 have h11:=h 11
 have h12:=h 12
 have h13:=h 13
 have h14:=h 14
 have h15:=h 15
 simp
 omega
theorem hiTo_lt (K : List (List UInt8)) : ∀ i,hiTo K i < 2 ^ (min i 8)
 | 0=>by simp [hiTo]
 | i + 1=>by
  have ih:=hiTo_lt K i
  have hb:=bitK_le K i
  simp only [hiTo]
  split
  ·rw [show min (i + 1) 8 = min i 8 + 1 by omega,Nat.pow_succ]; omega
  ·rw [show min (i + 1) 8 = min i 8 by omega]; exact ih
theorem loTo_lt (K : List (List UInt8)) : ∀ i,i ≤ 16 → loTo K i < 2 ^ (i - 8)
 | 0,_=>by simp [loTo]
 | i + 1,h=>by
  have ih:=loTo_lt K i (by omega)
  have hb:=bitK_le K i
  simp only [loTo]
  split
  ·rw [show i + 1 - 8 = i - 8 by omega]; exact ih
  ·rw [show i + 1 - 8 = i - 8 + 1 by omega,Nat.pow_succ]; omega
theorem pow_le8 {n : Nat} (h : n ≤ 8) : 2 ^ n ≤ 256:=by
 have : 2 ^ n ≤ 2 ^ 8:=Nat.pow_le_pow_right (by omega) h
 omega
theorem kidsW_flat (K : List (List UInt8)) : (kidsW K).flatten = K.flatten:=by
 induction K with
 | nil=>rfl
 | cons a t ih =>
  unfold kidsW at ih ⊢
  rw [List.filter_cons]
  cases a <;> simp [ih]
set_option maxRecDepth 100000 in
set_option maxHeartbeats 1000000 in
theorem refwritten_loop (w0 : World) (B kk : Nat) (p v : List UInt8) (T : ByteArray) (K : List (List UInt8)) (hK : K.length = 16) (h32 : ∀ s ∈ K,s.length ≤ 32) (HB : Hid (Blk w0 B 117 (nodeV kk p v K).toArray))
  (Q : Exit → Act → World → Prop)
  (hQ : ∀ (s0 s2 s7 s8 s9 s10 s11 s12 s13 s14 s15 s16 s17 s18 s19 s20 s21 s22 s23 s24 s25 s26 s27 s28 s29 s30 s31 s32 s33 s34 s35 s36 s37 s38 s39 s40 s41 s42 s43 s44 s45 s46 s47 s48 s49 s50 s51 s52 s53 s54 s55 s56 s57 s58 s59 s60 s61 s62 s63 s64 s65 s66 s67 s68 s69 s70 s71 s72 s73 s74 s75 s76 s77 s78 s79 s80 s81 s82 s83 : Value),Q (.exit 0) { tmps:=#[s0,.pointer (some ⟨B,0,none⟩),s2,.string T,.int .i64 (hiTo K 16 : Int),.int .i64 (loTo K 16 : Int),.string ⟨K.flatten.toArray⟩,s7,s8,s9,s10,s11,s12,s13,s14,s15,s16,s17,s18,s19,s20,s21,s22,s23,s24,s25,s26,s27,s28,s29,s30,s31,s32,s33,s34,s35,s36,s37,s38,s39,s40,s41,s42,s43,s44,s45,s46,s47,s48,s49,s50,s51,s52,s53,s54,s55,s56,s57,s58,s59,s60,s61,s62,s63,s64,s65,s66,s67,s68,s69,s70,s71,s72,s73,s74,s75,s76,s77,s78,s79,s80,s81,s82,s83],defers := [] } w0)
  (s0 s2 s8 s9 s10 s11 s12 s13 s14 s15 s16 s17 s18 s19 s20 s21 s22 s23 s24 s25 s26 s27 s28 s29 s30 s31 s32 s33 s34 s35 s36 s37 s38 s39 s40 s41 s42 s43 s44 s45 s46 s47 s48 s49 s50 s51 s52 s53 s54 s55 s56 s57 s58 s59 s60 s61 s62 s63 s64 s65 s66 s67 s68 s69 s70 s71 s72 s73 s74 s75 s76 s77 s78 s79 s80 s81 s82 s83 : Value) :
  Code.wp Tryz.prog (.loop (loopAt Tryz.f123 0)) Q { tmps:=#[s0,.pointer (some ⟨B,0,none⟩),s2,.string T,.int .i64 0,.int .i64 0,.string ⟨#[]⟩,.int .i64 0,s8,s9,s10,s11,s12,s13,s14,s15,s16,s17,s18,s19,s20,s21,s22,s23,s24,s25,s26,s27,s28,s29,s30,s31,s32,s33,s34,s35,s36,s37,s38,s39,s40,s41,s42,s43,s44,s45,s46,s47,s48,s49,s50,s51,s52,s53,s54,s55,s56,s57,s58,s59,s60,s61,s62,s63,s64,s65,s66,s67,s68,s69,s70,s71,s72,s73,s74,s75,s76,s77,s78,s79,s80,s81,s82,s83],defers := [] } w0:=by
 have HQ:=Lib.hid hQ
 clear hQ
 refine wp_loop_ghost_k (fun k a wr => ∀ Φ : Act → Prop,(∀ (s0 s2 s8 s9 s10 s11 s12 s13 s14 s15 s16 s17 s18 s19 s20 s21 s22 s23 s24 s25 s26 s27 s28 s29 s30 s31 s32 s33 s34 s35 s36 s37 s38 s39 s40 s41 s42 s43 s44 s45 s46 s47 s48 s49 s50 s51 s52 s53 s54 s55 s56 s57 s58 s59 s60 s61 s62 s63 s64 s65 s66 s67 s68 s69 s70 s71 s72 s73 s74 s75 s76 s77 s78 s79 s80 s81 s82 s83 : Value) (i h l : Nat) (S : List UInt8),(i + k = 16 ∧ h = hiTo K i ∧ l = loTo K i ∧ S = (K.take i).flatten ∧ wr = w0) → Φ { tmps:=#[s0,.pointer (some ⟨B,0,none⟩),s2,.string T,.int .i64 (h : Int),.int .i64 (l : Int),.string ⟨S.toArray⟩,.int .i64 (i : Int),s8,s9,s10,s11,s12,s13,s14,s15,s16,s17,s18,s19,s20,s21,s22,s23,s24,s25,s26,s27,s28,s29,s30,s31,s32,s33,s34,s35,s36,s37,s38,s39,s40,s41,s42,s43,s44,s45,s46,s47,s48,s49,s50,s51,s52,s53,s54,s55,s56,s57,s58,s59,s60,s61,s62,s63,s64,s65,s66,s67,s68,s69,s70,s71,s72,s73,s74,s75,s76,s77,s78,s79,s80,s81,s82,s83],defers := [] }) → Φ a) (16) ?_ ?_
 ·refine fun Φ hΦ=>hΦ _ _ _ _ _ _ _ _ _ _ _ _ _ _ _ _ _ _ _ _ _ _ _ _ _ _ _ _ _ _ _ _ _ _ _ _ _ _ _ _ _ _ _ _ _ _ _ _ _ _ _ _ _ _ _ _ _ _ _ _ _ _ _ _ _ _ _ _ _ _ _ _ _ _ _ _ _ _ (0) (0) (0) ([]) ?_
  exact ⟨by omega,rfl,rfl,rfl,rfl⟩
 ·intro k1 a1 wr1 hI1 J1 K1 hJ1 hK1
  refine hI1 (fun a=>Code.wp _ _ _ a _) ?_
  clear hI1 a1
  intro s0 s1 s2 s3 s4 s5 s6 s7 s8 s9 s10 s11 s12 s13 s14 s15 s16 s17 s18 s19 s20 s21 s22 s23 s24 s25 s26 s27 s28 s29 s30 s31 s32 s33 s34 s35 s36 s37 s38 s39 s40 s41 s42 s43 s44 s45 s46 s47 s48 s49 s50 s51 s52 s53 s54 s55 s56 s57 s58 s59 s60 s61 s62 s63 s64 s65 s66 s67 s68 s69 s70 s71 s72 s73 s74 s75 s76 s77 i h l S hrel
  show Code.wp _ _ _ _ _
  conv=>arg 2; whnf
  obtain ⟨h1,h2,h3,h4,rfl⟩:=hrel
  by_cases hi : i < 16
  ·have hi1 : (i : Int) < 16:=by omega
   obtain ⟨_,_,_,RK,_⟩:=NodeAt.of (C := []) (by rw [List.append_nil]; exact HB.out)
   have hKi : K[i]? = some (K.getD i []):=by rw [List.getD_eq_getElem?_getD,List.getElem?_eq_getElem (show i < K.length by omega)]; rfl
   have ec : wr1.cell? ⟨B,3 + i,none⟩ = some (.string ⟨(K.getD i []).toArray⟩):=RK i _ (strv_getD (by omega))
   have hl:=Lib.hid (show S.length ≤ 1000 by
    have:=flatten_len (n:=32) (K.take i) (fun s hs=>h32 s (List.mem_of_mem_take hs))
    rw [h4]; rw [List.length_take] at this; omega)
   have hs32 : (K.getD i []).length ≤ 32:=h32 _ (List.mem_of_getElem? hKi)
   have HFl : Hid ((K.take (i + 1)).flatten = S ++ K.getD i []):=Lib.hid (by
    rw [List.take_add_one,hKi,List.flatten_append,h4]; simp)
   have hh:=hiTo_lt K i
   have hl2:=loTo_lt K i (by omega)
   have hp1:=pow_le8 (n:=min i 8) (by omega)
   have hp2:=pow_le8 (n:=i - 8) (by omega)
   rw [← h2] at hh
   rw [← h3] at hl2
   have hh : h ≤ 256:=by omega
   have hll : l ≤ 256:=by omega
   have HI:=Lib.hid (And.intro h1 (And.intro h2 h3))
   have HBt : Hid (bitK K i = if (K.getD i []).isEmpty then 0 else 1):=Lib.hid rfl
   have hsl:=hl.out
   clear RK h1 h2 h3 h4 hKi hl2 hp1 hp2 h32
   generalize K.getD i [] = s at *
   cases s with
   | nil =>
    replace HBt : Hid (bitK K i = 0):=HBt
    have HS : Hid (S = (K.take (i + 1)).flatten):=Lib.hid (by rw [HFl.out,List.append_nil])
    by_cases h8 : i < 8
    ·have h8i : (i : Int) < 8:=by omega
     have eh:=Lib.hid (show hiTo K (i + 1) = h * 2 + 0 by rw [hiTo,if_pos h8,← HI.out.2.1,HBt.out])
     have el:=Lib.hid (show loTo K (i + 1) = l by rw [loTo,if_pos h8,← HI.out.2.2])
     clear h8
     go_wp2
     (try rw [show (h : Int) * 2 + 1 = ((h * 2 + 1 : Nat) : Int) by omega])
     (try rw [show (h : Int) * 2 = ((h * 2 + 0 : Nat) : Int) by omega])
     refine Handed.intro (16 - (i + 1)) ?_ (hJ1 _ _ _ (fun Φ hΦ=>hΦ _ _ _ _ _ _ _ _ _ _ _ _ _ _ _ _ _ _ _ _ _ _ _ _ _ _ _ _ _ _ _ _ _ _ _ _ _ _ _ _ _ _ _ _ _ _ _ _ _ _ _ _ _ _ _ _ _ _ _ _ _ _ _ _ _ _ _ _ _ _ _ _ _ _ _ _ _ _ (i + 1) (h * 2 + 0) (l) (S) ?_))
     ·have:=HI.out.1; omega
     ·exact ⟨by have:=HI.out.1; omega,eh.out.symm,el.out.symm,HS.out,rfl⟩
    ·have h8i : ((i : Int) < 8) = False:=by simp; omega
     have eh:=Lib.hid (show hiTo K (i + 1) = h by rw [hiTo,if_neg h8,← HI.out.2.1])
     have el:=Lib.hid (show loTo K (i + 1) = l * 2 + 0 by rw [loTo,if_neg h8,← HI.out.2.2,HBt.out])
     clear h8
     go_wp2
     (try rw [show (l : Int) * 2 + 1 = ((l * 2 + 1 : Nat) : Int) by omega])
     (try rw [show (l : Int) * 2 = ((l * 2 + 0 : Nat) : Int) by omega])
     refine Handed.intro (16 - (i + 1)) ?_ (hJ1 _ _ _ (fun Φ hΦ=>hΦ _ _ _ _ _ _ _ _ _ _ _ _ _ _ _ _ _ _ _ _ _ _ _ _ _ _ _ _ _ _ _ _ _ _ _ _ _ _ _ _ _ _ _ _ _ _ _ _ _ _ _ _ _ _ _ _ _ _ _ _ _ _ _ _ _ _ _ _ _ _ _ _ _ _ _ _ _ _ (i + 1) (h) (l * 2 + 0) (S) ?_))
     ·have:=HI.out.1; omega
     ·exact ⟨by have:=HI.out.1; omega,eh.out.symm,el.out.symm,HS.out,rfl⟩
   | cons a t =>
    replace HBt : Hid (bitK K i = 1):=HBt
    have HS : Hid (S ++ (a :: t) = (K.take (i + 1)).flatten):=Lib.hid (by rw [HFl.out])
    have ne1 : ((a :: t).toArray = #[]) = False:=by simp
    have se : (a :: t).isEmpty = false:=rfl
    clear HFl
    generalize hs : (a :: t) = s at *
    have hsum : S.length + s.length ≤ 9223372036854775807:=by omega
    by_cases h8 : i < 8
    ·have h8i : (i : Int) < 8:=by omega
     have eh:=Lib.hid (show hiTo K (i + 1) = h * 2 + 1 by rw [hiTo,if_pos h8,← HI.out.2.1,HBt.out])
     have el:=Lib.hid (show loTo K (i + 1) = l by rw [loTo,if_pos h8,← HI.out.2.2])
     clear h8
     go_wp2
     (try rw [show (h : Int) * 2 + 1 = ((h * 2 + 1 : Nat) : Int) by omega])
     (try rw [show (h : Int) * 2 = ((h * 2 + 0 : Nat) : Int) by omega])
     refine Handed.intro (16 - (i + 1)) ?_ (hJ1 _ _ _ (fun Φ hΦ=>hΦ _ _ _ _ _ _ _ _ _ _ _ _ _ _ _ _ _ _ _ _ _ _ _ _ _ _ _ _ _ _ _ _ _ _ _ _ _ _ _ _ _ _ _ _ _ _ _ _ _ _ _ _ _ _ _ _ _ _ _ _ _ _ _ _ _ _ _ _ _ _ _ _ _ _ _ _ _ _ (i + 1) (h * 2 + 1) (l) (S ++ s) ?_))
     ·have:=HI.out.1; omega
     ·exact ⟨by have:=HI.out.1; omega,eh.out.symm,el.out.symm,HS.out,rfl⟩
    ·have h8i : ((i : Int) < 8) = False:=by simp; omega
     have eh:=Lib.hid (show hiTo K (i + 1) = h by rw [hiTo,if_neg h8,← HI.out.2.1])
     have el:=Lib.hid (show loTo K (i + 1) = l * 2 + 1 by rw [loTo,if_neg h8,← HI.out.2.2,HBt.out])
     clear h8
     go_wp2
     (try rw [show (l : Int) * 2 + 1 = ((l * 2 + 1 : Nat) : Int) by omega])
     (try rw [show (l : Int) * 2 = ((l * 2 + 0 : Nat) : Int) by omega])
     refine Handed.intro (16 - (i + 1)) ?_ (hJ1 _ _ _ (fun Φ hΦ=>hΦ _ _ _ _ _ _ _ _ _ _ _ _ _ _ _ _ _ _ _ _ _ _ _ _ _ _ _ _ _ _ _ _ _ _ _ _ _ _ _ _ _ _ _ _ _ _ _ _ _ _ _ _ _ _ _ _ _ _ _ _ _ _ _ _ _ _ _ _ _ _ _ _ _ _ _ _ _ _ (i + 1) (h) (l * 2 + 1) (S ++ s) ?_))
     ·have:=HI.out.1; omega
     ·exact ⟨by have:=HI.out.1; omega,eh.out.symm,el.out.symm,HS.out,rfl⟩
  ·have e16 : i = 16:=by omega
   subst e16
   have H2:=Lib.hid (And.intro h2 (And.intro h3 h4))
   rw [List.take_of_length_le (by omega)] at h4
   subst h2
   subst h3
   subst h4
   clear h1 H2
   go_wp2
   exact HQ.out _ _ _ _ _ _ _ _ _ _ _ _ _ _ _ _ _ _ _ _ _ _ _ _ _ _ _ _ _ _ _ _ _ _ _ _ _ _ _ _ _ _ _ _ _ _ _ _ _ _ _ _ _ _ _ _ _ _ _ _ _ _ _ _ _ _ _ _ _ _ _ _ _ _ _ _ _ _ _
set_option maxRecDepth 100000 in
set_option maxHeartbeats 4000000 in
theorem ref08_written3 (w : World) (v : List UInt8) (K : List (List UInt8)) (hK : K.length = 16) (hf : fineN 3 [] v K = true) :
  Calls Tryz.prog 123 #[.agg (nodeV 3 [] v K).toArray] w (Ret w (.string ⟨(nodeText 3 [] v K).toArray⟩)):=by
 obtain ⟨_,_,_,hv,hs⟩:=fineN_parts hf
 have h32 : ∀ s ∈ K,s.length ≤ 32:=fun s hsK=>by
  by_cases he : s.isEmpty
  ·rw [List.isEmpty_iff.1 he]; simp
  ·exact kidsW_32 hs s (by unfold kidsW; exact List.mem_filter.2 ⟨hsK,by simp at he; simp [he]⟩)
 have hx : nodeText 3 [] v K = (3 :: UInt8.ofNat (hiTo K 16 : Int).toNat :: [UInt8.ofNat (loTo K 16 : Int).toNat]) ++ (K.flatten ++ textW v):=by
  unfold nodeText
  rw [if_pos rfl,kidsW_flat]
  obtain ⟨e1,e2⟩:=hilo K
  rw [Int.toNat_natCast,Int.toNat_natCast,← e1,← e2,ofNat_mod256]
  rfl
 have HP : Hid (∀ s w',nodeText 3 [] v K = s → Below w.heap.size w w' → Ret w (.string ⟨(nodeText 3 [] v K).toArray⟩) (Ending.returned (.string ⟨s.toArray⟩)) w'):=Lib.hid (fun b w' h h2=>by rw [h]; exact ⟨rfl,h2⟩)
 generalize Ret w (.string ⟨(nodeText 3 [] v K).toArray⟩) = P at HP ⊢
 rw [hx] at HP
 have HT:=Lib.hid (fun W=>ref02_Text v (by omega) W)
 have htl:=textW_len v (by omega)
 have hfl:=flatten_len (n:=32) K h32
 rw [hK] at hfl
 have g1:=hiTo_lt K 16
 have g2:=loTo_lt K 16 (by omega)
 have H32:=Lib.hid h32
 have hKl : K.flatten.length ≤ 600:=by omega
 have htl2 : (textW v).length ≤ 100:=by omega
 have g1 : (hiTo K 16 : Int) < 256:=by simp at g1; omega
 have g2 : (loTo K 16 : Int) < 256:=by simp at g2; omega
 have g1b : (0 : Int) ≤ (hiTo K 16 : Int):=by omega
 have g2b : (0 : Int) ≤ (loTo K 16 : Int):=by omega
 clear hs hx h32 htl hfl
 go_enter Tryz.func123,Tryz.ntmps123
 go_upto_region 1 with fail
 have F:=Live.ha (Lib.hid (Live.start w)) (nodeV 3 [] v K).toArray 117
 generalize w.alloc (.cells (nodeV 3 [] v K).toArray 117) = W0 at F ⊢
 obtain ⟨q0,q1,q2,RK,_⟩:=NodeAt.of (C := []) (by rw [List.append_nil]; exact F.out.blk 0 rfl)
 have cv:=conv1 W0 3 (by omega) (by omega)
 go_upto_region 2 with fail
 have F:=Live.ha F #[.int .u8 3] 5
 clear cv q0 q1 q2 RK
 generalize W0.alloc (.cells #[.int .u8 3] 5) = W1 at F ⊢
 replace F : Hid (Live w W1 [(w.heap.size,117,(nodeV 3 [] v K).toArray)]):=Lib.hid (F.out.drop 1)
 obtain ⟨q0,q1,q2,RK,_⟩:=NodeAt.of (C := []) (by rw [List.append_nil]; exact F.out.blk 0 rfl)
 go_upto_region 6 with fail
 refine refwritten_loop W1 w.heap.size 3 [] v _ K hK H32.out (Lib.hid (F.out.blk 0 rfl)) _ ?_ _ _ _ _ _ _ _ _ _ _ _ _ _ _ _ _ _ _ _ _ _ _ _ _ _ _ _ _ _ _ _ _ _ _ _ _ _ _ _ _ _ _ _ _ _ _ _ _ _ _ _ _ _ _ _ _ _ _ _ _ _ _ _ _ _ _ _ _ _ _ _ _ _ _ _ _ _ _
 intro s0 s2 s7 s8 s9 s10 s11 s12 s13 s14 s15 s16 s17 s18 s19 s20 s21 s22 s23 s24 s25 s26 s27 s28 s29 s30 s31 s32 s33 s34 s35 s36 s37 s38 s39 s40 s41 s42 s43 s44 s45 s46 s47 s48 s49 s50 s51 s52 s53 s54 s55 s56 s57 s58 s59 s60 s61 s62 s63 s64 s65 s66 s67 s68 s69 s70 s71 s72 s73 s74 s75 s76 s77 s78 s79 s80 s81 s82 s83
 go_upto_region 15 with fail
 generalize K.flatten = D at *
 generalize textW v = Y at *
 generalize (hiTo K 16 : Int) = hi at *
 generalize (loTo K 16 : Int) = lo at *
 have e1 : IntKind.u8.wrap hi = hi:=IntWalk.u8_in _ (by omega)
 have e2 : IntKind.u8.wrap lo = lo:=IntWalk.u8_in _ (by omega)
 have FA:=Live.ha F #[.int .u8 hi,.int .u8 lo] 5
 have cd:=conv2b (FA.out.blk 0 rfl).drew g1b g1 g2b g2
 have kA : (W1.alloc (.cells #[.int .u8 hi,.int .u8 lo] 5)).cell? ⟨w.heap.size,2,none⟩ = some (.string ⟨v.toArray⟩):=FA.out.cell 1 2 rfl rfl
 have hn1 : (9223372036854775807 < 3 + D.length) = False:=by simp; omega
 have hn2 : (9223372036854775807 < D.length + 1 + 1 + 1 + Y.length) = False:=by simp; omega
 have hn3 : 3 + D.length + Y.length ≤ 9223372036854775807:=by omega
 go_region_law (refine step_call rfl 133 #[.string ⟨v.toArray⟩] (by go_simp) _ (HT.out _) ?_; rintro e w1 ⟨rfl,hb⟩; refine ⟨_,rfl, ?_⟩; (first | (have F:=Live.hbd FA hb; have k2 : w1.cell? ⟨w.heap.size,2,none⟩ = some (.string ⟨v.toArray⟩):=F.out.cell 1 2 rfl rfl; have cd1:=conv2b (F.out.blk 0 rfl) g1b g1 g2b g2) | (have F:=Live.hbd F hb; have k2 : w1.cell? ⟨w.heap.size,2,none⟩ = some (.string ⟨v.toArray⟩):=F.out.cell 0 2 rfl rfl; have F:=Live.ha F #[.int .u8 hi,.int .u8 lo] 5; have cd1:=conv2b (F.out.blk 0 rfl) g1b g1 g2b g2)))
 all_goals go_wp2
 all_goals (first | exact HP.out _ _ rfl (by first | exact F.out.b | exact F.out.b.drew) | (go_ret; exact HP.out _ _ rfl (by first | exact F.out.b | exact F.out.b.drew)))
set_option maxRecDepth 100000 in
set_option maxHeartbeats 4000000 in
theorem ref08_written1 (w : World) (p v : List UInt8) (K : List (List UInt8)) (hK : K.length = 16) (hf : fineN 1 p v K = true) :
  Calls Tryz.prog 123 #[.agg (nodeV 1 p v K).toArray] w (Ret w (.string ⟨(nodeText 1 p v K).toArray⟩)):=by
 obtain ⟨_,hfit,hp,hv,hs⟩:=fineN_parts hf
 have HP : Hid (∀ s w',nodeText 1 p v K = s → Below w.heap.size w w' → Ret w (.string ⟨(nodeText 1 p v K).toArray⟩) (Ending.returned (.string ⟨s.toArray⟩)) w'):=Lib.hid (fun b w' h h2=>by rw [h]; exact ⟨rfl,h2⟩)
 generalize Ret w (.string ⟨(nodeText 1 p v K).toArray⟩) = P at HP ⊢
 rw [show nodeText 1 p v K = 1 :: (textW (Nib.packed p true) ++ textW v) from rfl] at HP
 have hpl:=Nib.packed_length p true
 have HPk:=Lib.hid (fun W=>refnib_Pack p true W (by omega))
 rw [show Nib.pack p true = (Nib.packed p true,0) by unfold Nib.pack; rw [hfit]; rfl] at HPk
 have HT1:=Lib.hid (fun W=>ref02_Text (Nib.packed p true) (by omega) W)
 have HT2:=Lib.hid (fun W=>ref02_Text v (by omega) W)
 have l1:=textW_len (Nib.packed p true) (by omega)
 have l2:=textW_len v (by omega)
 have l1 : (textW (Nib.packed p true)).length ≤ 1000:=by omega
 have l2 : (textW v).length ≤ 1000:=by omega
 clear hf hs hpl hfit
 generalize textW (Nib.packed p true) = X at *
 generalize textW v = Y at *
 generalize Nib.packed p true = pk at *
 have m1 : 1 + X.length ≤ 9223372036854775807:=by omega
 have m2 : 1 + X.length + Y.length ≤ 9223372036854775807:=by omega
 have m3 : X.length + 1 + Y.length ≤ 9223372036854775807:=by omega
 go_enter Tryz.func123,Tryz.ntmps123
 go_upto_region 1 with fail
 have F:=Live.ha (Lib.hid (Live.start w)) (nodeV 1 p v K).toArray 117
 generalize w.alloc (.cells (nodeV 1 p v K).toArray 117) = W0 at F ⊢
 obtain ⟨q0,q1,q2,RK,_⟩:=NodeAt.of (C := []) (by rw [List.append_nil]; exact F.out.blk 0 rfl)
 have cv:=conv1 W0 1 (by omega) (by omega)
 go_upto_region 2 with fail
 have F:=Live.ha F #[.int .u8 1] 5
 clear cv q0 q1 q2 RK
 generalize W0.alloc (.cells #[.int .u8 1] 5) = W1 at F ⊢
 replace F : Hid (Live w W1 [(w.heap.size,117,(nodeV 1 p v K).toArray)]):=Lib.hid (F.out.drop 1)
 obtain ⟨q0,q1,q2,RK,_⟩:=NodeAt.of (C := []) (by rw [List.append_nil]; exact F.out.blk 0 rfl)
 go_wp2_with fail
 refine (HPk.out _).mono ?_
 rintro e w1 ⟨rfl,hb⟩
 (first | have F:=Live.hb F hb | have F:=Live.hbd F hb); clear hb
 clear q0 q1 q2 RK
 obtain ⟨q0,q1,q2,RK,_⟩:=NodeAt.of (C := []) (by rw [List.append_nil]; exact F.out.blk 0 rfl)
 go_wp2_with fail
 refine (HT1.out _).mono ?_
 rintro e w2 ⟨rfl,hb⟩
 (first | have F:=Live.hb F hb | have F:=Live.hbd F hb); clear hb
 clear q0 q1 q2 RK
 obtain ⟨q0,q1,q2,RK,_⟩:=NodeAt.of (C := []) (by rw [List.append_nil]; exact F.out.blk 0 rfl)
 go_wp2_with fail
 refine (HT2.out _).mono ?_
 rintro e w3 ⟨rfl,hb⟩
 (first | have F:=Live.hb F hb | have F:=Live.hbd F hb); clear hb
 go_wp2
 exact HP.out _ _ rfl F.out.b
set_option maxRecDepth 100000 in
set_option maxHeartbeats 4000000 in
theorem ref08_written2 (w : World) (p v : List UInt8) (K : List (List UInt8)) (hK : K.length = 16) (hf : fineN 2 p v K = true) :
  Calls Tryz.prog 123 #[.agg (nodeV 2 p v K).toArray] w (Ret w (.string ⟨(nodeText 2 p v K).toArray⟩)):=by
 obtain ⟨_,hfit,hp,hv,hs⟩:=fineN_parts hf
 have hk0:=(fine_ext hf).1
 have HP : Hid (∀ s w',nodeText 2 p v K = s → Below w.heap.size w w' → Ret w (.string ⟨(nodeText 2 p v K).toArray⟩) (Ending.returned (.string ⟨s.toArray⟩)) w'):=Lib.hid (fun b w' h h2=>by rw [h]; exact ⟨rfl,h2⟩)
 generalize Ret w (.string ⟨(nodeText 2 p v K).toArray⟩) = P at HP ⊢
 rw [show nodeText 2 p v K = 2 :: (textW (Nib.packed p false) ++ K.getD 0 []) from rfl] at HP
 have hpl:=Nib.packed_length p false
 have HPk:=Lib.hid (fun W=>refnib_Pack p false W (by omega))
 rw [show Nib.pack p false = (Nib.packed p false,0) by unfold Nib.pack; rw [hfit]; rfl] at HPk
 have HT1:=Lib.hid (fun W=>ref02_Text (Nib.packed p false) (by omega) W)
 have l1:=textW_len (Nib.packed p false) (by omega)
 have l1 : (textW (Nib.packed p false)).length ≤ 1000:=by omega
 have HK0:=Lib.hid (strv_getD (K:=K) (i:=0) (by omega))
 clear hf hs hpl hfit
 generalize textW (Nib.packed p false) = X at *
 generalize Nib.packed p false = pk at *
 generalize K.getD 0 [] = k0 at *
 have m1 : 1 + X.length ≤ 9223372036854775807:=by omega
 have m2 : 1 + X.length + k0.length ≤ 9223372036854775807:=by omega
 have m3 : X.length + 1 + k0.length ≤ 9223372036854775807:=by omega
 clear hk0
 go_enter Tryz.func123,Tryz.ntmps123
 go_upto_region 1 with fail
 have F:=Live.ha (Lib.hid (Live.start w)) (nodeV 2 p v K).toArray 117
 generalize w.alloc (.cells (nodeV 2 p v K).toArray 117) = W0 at F ⊢
 obtain ⟨q0,q1,q2,RK,_⟩:=NodeAt.of (C := []) (by rw [List.append_nil]; exact F.out.blk 0 rfl)
 have cv:=conv1 W0 2 (by omega) (by omega)
 go_upto_region 2 with fail
 have F:=Live.ha F #[.int .u8 2] 5
 clear cv q0 q1 q2 RK
 generalize W0.alloc (.cells #[.int .u8 2] 5) = W1 at F ⊢
 replace F : Hid (Live w W1 [(w.heap.size,117,(nodeV 2 p v K).toArray)]):=Lib.hid (F.out.drop 1)
 obtain ⟨q0,q1,q2,RK,_⟩:=NodeAt.of (C := []) (by rw [List.append_nil]; exact F.out.blk 0 rfl)
 go_wp2_with fail
 refine (HPk.out _).mono ?_
 rintro e w1 ⟨rfl,hb⟩
 (first | have F:=Live.hb F hb | have F:=Live.hbd F hb); clear hb
 clear q0 q1 q2 RK
 obtain ⟨q0,q1,q2,RK,_⟩:=NodeAt.of (C := []) (by rw [List.append_nil]; exact F.out.blk 0 rfl)
 go_wp2_with fail
 refine (HT1.out _).mono ?_
 rintro e w2 ⟨rfl,hb⟩
 (first | have F:=Live.hb F hb | have F:=Live.hbd F hb); clear hb
 clear q0 q1 q2 RK
 obtain ⟨q0,q1,q2,RK,_⟩:=NodeAt.of (C := []) (by rw [List.append_nil]; exact F.out.blk 0 rfl)
 have q3 : w2.cell? ⟨w.heap.size,3,none⟩ = some (.string ⟨k0.toArray⟩):=RK 0 _ HK0.out
 clear RK
 go_wp2
 exact HP.out _ _ rfl F.out.b
theorem ref08_Written (w : World) (k : Nat) (p v : List UInt8) (K : List (List UInt8)) (hK : K.length = 16) (hf : fineN k p v K = true) :
  Calls Tryz.prog 123 #[.agg (nodeV k p v K).toArray] w (Ret w (.string ⟨(nodeText k p v K).toArray⟩)):=by
 obtain ⟨h1 | h1 | h1,_⟩:=id (fineN_parts hf)
 ·subst h1; exact ref08_written1 w p v K hK hf
 ·subst h1; exact ref08_written2 w p v K hK hf
 ·subst h1
  have hp : p = []:=by simp [fineN] at hf; exact hf.1.1.1
  subst hp
  exact ref08_written3 w v K hK hf
theorem RRd.lt {w : World} {g : Nat} {s : List UInt8 × Nat} (h : RRd w g s) : g < w.heap.size:=h.1.lt
theorem RRd.below {w w' : World} {g : Nat} {s : List UInt8 × Nat} (h : RRd w g s) (hb : Below w.heap.size w w') : RRd w' g s:=⟨h.1.below hb h.1.lt,h.2⟩
theorem RRd.grown {w w' : World} {g : Nat} {s : List UInt8 × Nat} {row : Option Nat} (h : RRd w g s) (hg : w.grownBy w' row) (hne : some g ≠ row) : RRd w' g s:=⟨h.1.grown hg hne,h.2⟩
structure RRdNd (w0 w : World) (g nb : Nat) (s : List UInt8 × Nat) (n : Nd) : Prop where
 rd : RRd w g s
 nd : Blk w nb 117 (nodeV n.1 n.2.1 n.2.2.1 n.2.2.2).toArray
 ne : g ≠ nb
 g0 : w0.heap.size ≤ g
 n0 : w0.heap.size ≤ nb
 b : Below w0.heap.size w0 w
theorem RRdNd.read {w0 w w' : World} {g nb : Nat} {s s' : List UInt8 × Nat} {n : Nd} (h : RRdNd w0 w g nb s n) (hr : RRd w' g s') (hg : w.grownBy w' (some g)) : RRdNd w0 w' g nb s' n :=
 ⟨hr,h.nd.grown hg (fun e=>h.ne (by injection e with e; exact e.symm)),h.ne,h.g0,h.n0,h.b.grown hg h.b.size (fun k e=>by injection e with e; subst e; exact h.g0)⟩
theorem RRdNd.below {w0 w w' : World} {g nb : Nat} {s : List UInt8 × Nat} {n : Nd} (h : RRdNd w0 w g nb s n) (hb : Below w.heap.size w w') : RRdNd w0 w' g nb s n :=
 ⟨h.rd.below hb,h.nd.below hb h.nd.lt,h.ne,h.g0,h.n0,h.b.nxt hb⟩
theorem RRdNd.drew {w0 w : World} {g nb : Nat} {s : List UInt8 × Nat} {n : Nd} (h : RRdNd w0 w g nb s n) : RRdNd w0 w.drew g nb s n:=⟨h.rd,h.nd,h.ne,h.g0,h.n0,h.b.drew⟩
theorem RRdNd.drewN {w0 w : World} {g nb : Nat} {s : List UInt8 × Nat} {n : Nd} (h : RRdNd w0 w g nb s n) (m : Nat) : RRdNd w0 (w.drewN m) g nb s n:=⟨h.rd,h.nd,h.ne,h.g0,h.n0,below_drewN h.b m⟩
theorem RRdNd.write {w0 w : World} {g nb : Nat} {s : List UInt8 × Nat} {n m : Nd} (h : RRdNd w0 w g nb s n) (i : Nat) (u : Value) (hm : (nodeV n.1 n.2.1 n.2.2.1 n.2.2.2).toArray.setIfInBounds i u = (nodeV m.1 m.2.1 m.2.2.1 m.2.2.2).toArray) : RRdNd w0 (w.setCell ⟨nb,i,none⟩ u) g nb s m:=by
 refine ⟨h.rd.grown (row:=some nb) ?_ (fun e=>h.ne (by injection e)), ?_,h.ne,h.g0,h.n0,h.b.setCell h.n0 _⟩
 ·exact ⟨rfl,rfl,rfl,by simp [World.setCell],fun j hj hne=>Below.heap_setCell _ _ _ _ (fun e=>hne (by rw [e]))⟩
 ·have:=h.nd.set_ i u
  rwa [hm] at this
theorem RRdNd.at0 {w0 w : World} {g nb : Nat} {s : List UInt8 × Nat} {n : Nd} (h : RRdNd w0 w g nb s n) : w.cell? ⟨nb,0,none⟩ = some (.int .i64 (n.1 : Int)) ∧ w.cell? ⟨nb,1,none⟩ = some (.string ⟨n.2.1.toArray⟩) ∧ w.cell? ⟨nb,2,none⟩ = some (.string ⟨n.2.2.1.toArray⟩) :=
 ⟨h.nd.cell 0,h.nd.cell 1,h.nd.cell 2⟩
theorem kidsR_step' (set : Nat) (sq s : List UInt8 × Nat) (D : List (List UInt8)) (i : Nat) (hi : i < 16) (h : kidsR set 16 sq = (D ++ (kidsR set (16 - i) s).1,(kidsR set (16 - i) s).2)) :
  kidsR set 16 sq = (D ++ [(kidR set (15 - i) s).1] ++ (kidsR set (16 - (i + 1)) (kidR set (15 - i) s).2).1,(kidsR set (16 - (i + 1)) (kidR set (15 - i) s).2).2):=by
 rw [h,show 16 - i = (15 - i) + 1 by omega,show 16 - (i + 1) = 15 - i by omega]
 simp only [kidsR,List.append_assoc,List.singleton_append]
theorem bit_two (x y : UInt8) (i : Nat) (hi : i < 16) : (x.toNat * 256 + y.toNat) / 2 ^ (15 - i) % 2 = (if i < 8 then x.toNat else y.toNat) / 2 ^ (7 - i % 8) % 2:=by
 have hx:=x.toNat_lt
 have hy:=y.toNat_lt
 generalize x.toNat = a at *
 generalize y.toNat = b at *
 have h : i = 0 ∨ i = 1 ∨ i = 2 ∨ i = 3 ∨ i = 4 ∨ i = 5 ∨ i = 6 ∨ i = 7 ∨ i = 8 ∨ i = 9 ∨ i = 10 ∨ i = 11 ∨ i = 12 ∨ i = 13 ∨ i = 14 ∨ i = 15:=by omega
 rcases h with rfl | rfl | rfl | rfl | rfl | rfl | rfl | rfl | rfl | rfl | rfl | rfl | rfl | rfl | rfl | rfl <;> simp <;> omega
set_option maxRecDepth 100000 in
set_option maxHeartbeats 2000000 in
theorem rbranch_loop (w0 w : World) (g nb rb : Nat) (u1 u3 : Value) (x y : UInt8) (bs : ByteArray) (hbs : ∀ (i : Nat) W,i < 16 → (Instr.index 9 (.string bs) (.int .i64 ((i : Int) / 8))).run Tryz.prog W = .ok (.int .u8 (((if i < 8 then x.toNat else y.toNat : Nat)) : Int)) W) (sq : List UInt8 × Nat) (str : ByteArray) (H0 : Hid (RRdNd w0 w g nb sq (3, [], [],zeroK)))
  (Q : Exit → Act → World → Prop)
  (hQ : ∀ (s6 s7 s8 s9 s10 s11 s12 s13 s14 s15 s16 s17 s18 s19 s20 s21 s22 s23 s24 s25 s26 s27 s28 s29 s30 s31 s32 s33 s34 s35 s36 s37 s38 s39 s40 s41 s42 s43 s44 s45 s46 s47 s48 s49 s50 s51 s52 s53 s54 s55 s56 s57 s58 s59 s60 s61 s62 s63 s64 s65 s66 s67 s68 s69 s70 s71 s72 s73 s74 s75 s76 s77 s78 s79 s80 s81 s82 s83 s84 s85 s86 s87 s88 s89 s90 s91 s92 s93 s94 s95 : Value) (w2 : World),RRdNd w0 w2 g nb (kidsR (set2 [x,y]) 16 sq).2 (3, [], [],(kidsR (set2 [x,y]) 16 sq).1) → Q (.exit 0) { tmps:=#[.string str,u1,.pointer (some ⟨rb,0,none⟩),u3,.pointer (some ⟨g,0,none⟩),.pointer (some ⟨nb,0,none⟩),s6,s7,s8,s9,s10,s11,s12,s13,s14,s15,s16,s17,s18,s19,s20,s21,s22,s23,s24,s25,s26,s27,s28,s29,s30,s31,s32,s33,s34,s35,s36,s37,s38,s39,s40,s41,s42,s43,s44,s45,s46,s47,s48,s49,s50,s51,s52,s53,s54,s55,s56,s57,s58,s59,s60,s61,s62,s63,s64,s65,s66,s67,s68,s69,s70,s71,s72,s73,s74,s75,s76,s77,s78,s79,s80,s81,s82,s83,s84,s85,s86,s87,s88,s89,s90,s91,s92,s93,s94,s95],defers := [] } w2)
  (s8 s9 s10 s11 s12 s13 s14 s15 s16 s17 s18 s19 s20 s21 s22 s23 s24 s25 s26 s27 s28 s29 s30 s31 s32 s33 s34 s35 s36 s37 s38 s39 s40 s41 s42 s43 s44 s45 s46 s47 s48 s49 s50 s51 s52 s53 s54 s55 s56 s57 s58 s59 s60 s61 s62 s63 s64 s65 s66 s67 s68 s69 s70 s71 s72 s73 s74 s75 s76 s77 s78 s79 s80 s81 s82 s83 s84 s85 s86 s87 s88 s89 s90 s91 s92 s93 s94 s95 : Value) :
  Code.wp Tryz.prog (.loop (loopAt Tryz.f84 0)) Q { tmps:=#[.string str,u1,.pointer (some ⟨rb,0,none⟩),u3,.pointer (some ⟨g,0,none⟩),.pointer (some ⟨nb,0,none⟩),.string bs,.int .i64 0,s8,s9,s10,s11,s12,s13,s14,s15,s16,s17,s18,s19,s20,s21,s22,s23,s24,s25,s26,s27,s28,s29,s30,s31,s32,s33,s34,s35,s36,s37,s38,s39,s40,s41,s42,s43,s44,s45,s46,s47,s48,s49,s50,s51,s52,s53,s54,s55,s56,s57,s58,s59,s60,s61,s62,s63,s64,s65,s66,s67,s68,s69,s70,s71,s72,s73,s74,s75,s76,s77,s78,s79,s80,s81,s82,s83,s84,s85,s86,s87,s88,s89,s90,s91,s92,s93,s94,s95],defers := [] } w:=by
 have HQ:=Lib.hid hQ
 have hset : set2 [x,y] = x.toNat * 256 + y.toNat:=rfl
 rw [hset] at HQ
 clear hQ hset
 refine wp_loop_ghost_k (fun k a wr => ∀ Φ : Act → Prop,(∀ (s8 s9 s10 s11 s12 s13 s14 s15 s16 s17 s18 s19 s20 s21 s22 s23 s24 s25 s26 s27 s28 s29 s30 s31 s32 s33 s34 s35 s36 s37 s38 s39 s40 s41 s42 s43 s44 s45 s46 s47 s48 s49 s50 s51 s52 s53 s54 s55 s56 s57 s58 s59 s60 s61 s62 s63 s64 s65 s66 s67 s68 s69 s70 s71 s72 s73 s74 s75 s76 s77 s78 s79 s80 s81 s82 s83 s84 s85 s86 s87 s88 s89 s90 s91 s92 s93 s94 s95 : Value) (i : Nat) (s : List UInt8 × Nat) (D : List (List UInt8)),(i + k = 16 ∧ D.length = i ∧ RRdNd w0 wr g nb s (3, [], [],pad D) ∧ kidsR (x.toNat * 256 + y.toNat) 16 sq = (D ++ (kidsR (x.toNat * 256 + y.toNat) (16 - i) s).1,(kidsR (x.toNat * 256 + y.toNat) (16 - i) s).2)) → Φ { tmps:=#[.string str,u1,.pointer (some ⟨rb,0,none⟩),u3,.pointer (some ⟨g,0,none⟩),.pointer (some ⟨nb,0,none⟩),.string bs,.int .i64 (i : Int),s8,s9,s10,s11,s12,s13,s14,s15,s16,s17,s18,s19,s20,s21,s22,s23,s24,s25,s26,s27,s28,s29,s30,s31,s32,s33,s34,s35,s36,s37,s38,s39,s40,s41,s42,s43,s44,s45,s46,s47,s48,s49,s50,s51,s52,s53,s54,s55,s56,s57,s58,s59,s60,s61,s62,s63,s64,s65,s66,s67,s68,s69,s70,s71,s72,s73,s74,s75,s76,s77,s78,s79,s80,s81,s82,s83,s84,s85,s86,s87,s88,s89,s90,s91,s92,s93,s94,s95],defers := [] }) → Φ a) (16) ?_ ?_
 ·refine fun Φ hΦ=>hΦ _ _ _ _ _ _ _ _ _ _ _ _ _ _ _ _ _ _ _ _ _ _ _ _ _ _ _ _ _ _ _ _ _ _ _ _ _ _ _ _ _ _ _ _ _ _ _ _ _ _ _ _ _ _ _ _ _ _ _ _ _ _ _ _ _ _ _ _ _ _ _ _ _ _ _ _ _ _ _ _ _ _ _ _ _ _ _ _ (0) (sq) ([]) ?_
  exact ⟨rfl,rfl,H0.out,by simp⟩
 ·intro k1 a1 wr1 hI1 J1 K1 hJ1 hK1
  refine hI1 (fun a=>Code.wp _ _ _ a _) ?_
  clear hI1 a1
  intro s0 s1 s2 s3 s4 s5 s6 s7 s8 s9 s10 s11 s12 s13 s14 s15 s16 s17 s18 s19 s20 s21 s22 s23 s24 s25 s26 s27 s28 s29 s30 s31 s32 s33 s34 s35 s36 s37 s38 s39 s40 s41 s42 s43 s44 s45 s46 s47 s48 s49 s50 s51 s52 s53 s54 s55 s56 s57 s58 s59 s60 s61 s62 s63 s64 s65 s66 s67 s68 s69 s70 s71 s72 s73 s74 s75 s76 s77 s78 s79 s80 s81 s82 s83 s84 s85 s86 s87 i s D hrel
  show Code.wp _ _ _ _ _
  clear H0
  conv=>arg 2; whnf
  obtain ⟨h1,h2,h3,h4⟩:=hrel
  by_cases hi : i < 16
  ·have hi1 : (i : Int) < 16:=by omega
   have hst:=kidsR_step' (x.toNat * 256 + y.toNat) sq s D i hi h4
   have HI:=Lib.hid (And.intro h1 h2)
   have HN:=Lib.hid h3
   have hm : bitAt (x.toNat * 256 + y.toNat) (15 - i) = decide ((if i < 8 then x.toNat else y.toNat) / 2 ^ (7 - i % 8) % 2 = 1):=by unfold bitAt; rw [bit_two x y i hi]
   have HK : Hid (kidR (x.toNat * 256 + y.toNat) (15 - i) s = if bitAt (x.toNat * 256 + y.toNat) (15 - i) then bytesS s 32 else ([],s)):=Lib.hid rfl
   rw [hm] at HK
   have HS:=Lib.hid hst
   clear h4 hst h3 hm
   generalize kidR (x.toNat * 256 + y.toNat) (15 - i) s = kr at *
   have hx1 : ∀ W,(Instr.index 9 (.string bs) (.int .i64 ((i : Int) / 8))).run Tryz.prog W = .ok (.int .u8 (((if i < 8 then x.toNat else y.toNat : Nat)) : Int)) W:=fun W=>hbs i W hi
   have hb256 : (if i < 8 then x.toNat else y.toNat) < 256:=by have:=x.toNat_lt; have:=y.toNat_lt; split <;> omega
   obtain ⟨b,hb⟩ : ∃ b,(if i < 8 then x.toNat else y.toNat) = b:=⟨_,rfl⟩
   rw [hb] at HK hb256
   simp only [hb] at hx1
   have ht : ((b : Int) / 2 ^ (7 - i % 8)).tmod 2 = ((b / 2 ^ (7 - i % 8) % 2 : Nat) : Int):=by
    rw [show (2 : Int) ^ (7 - i % 8) = ((2 ^ (7 - i % 8) : Nat) : Int) by simp,← Int.natCast_ediv]
    generalize b / 2 ^ (7 - i % 8) = z
    rfl
   have hlt2 : b / 2 ^ (7 - i % 8) % 2 < 2:=Nat.mod_lt _ (by omega)
   have hj0 : (0 : Int) ≤ (i : Int) % 8:=by omega
   have hj1 : (i : Int) % 8 ≤ 7:=by omega
   clear hb h1 h2
   generalize b / 2 ^ (7 - i % 8) % 2 = bt at *
   by_cases hbt : bt = 1
   ·subst hbt
    rw [decide_eq_true rfl,if_pos rfl] at HK
    obtain ⟨kd,s'⟩:=kr
    have HBy : Hid (∀ W,RRd W g s → Calls Tryz.prog 119 #[.pointer (some ⟨g,0,none⟩),.int .i64 32] W (RRdEnd W g (.string ⟨kd.toArray⟩) s')):=Lib.hid (fun W hW=>by
     have:=ref02_RBytes W g s hW 32 (by omega)
     rw [← HK.out] at this
     exact this)
    have c3 : ∀ W,RRdNd w0 W g nb s' (3, [], [],pad D) → W.cell? ⟨nb,3 + i,none⟩ = some (.string ⟨((pad D).getD i []).toArray⟩) ∧ W.frozen? ⟨nb,3 + i,none⟩ = false:=fun W hW=>⟨by
     have h5:=hW.nd.cell (3 + i)
     have hpl:=pad_len D (by have:=HI.out.1; have:=HI.out.2; omega)
     rw [h5,List.getElem?_toArray]
     show (nodeV 3 [] [] (pad D))[3 + i]? = _
     rw [show 3 + i = i + 1 + 1 + 1 by omega]
     unfold nodeV
     rw [List.getElem?_cons_succ,List.getElem?_cons_succ,List.getElem?_cons_succ,strv_at (by rw [hpl]; exact hi),List.getD_eq_getElem?_getD,List.getElem?_eq_getElem (show i < (pad D).length by rw [hpl]; exact hi),Option.getD_some],hW.nd.frozen (3 + i)⟩
    have HC:=Lib.hid c3
    replace ht : ((b : Int) / 2 ^ (7 - i % 8)).tmod 2 = 1:=ht
    clear c3 HK hbs
    go_upto_region 14 with fail
    clear hx1 ht
    go_wp2_with (go_at_call 119; refine (HBy.out _ HN.out.rd).mono ?_; rintro e w2 ⟨rfl,hr2,hg2⟩; have N2 : Hid (RRdNd w0 w2 g nb s' (3, [], [],pad D)):=Lib.hid (HN.out.read hr2 hg2); obtain ⟨k3,f3⟩:=HC.out _ N2.out; clear hr2 hg2)
    refine Handed.intro (16 - (i + 1)) ?_ (hJ1 _ _ _ (fun Φ hΦ=>hΦ _ _ _ _ _ _ _ _ _ _ _ _ _ _ _ _ _ _ _ _ _ _ _ _ _ _ _ _ _ _ _ _ _ _ _ _ _ _ _ _ _ _ _ _ _ _ _ _ _ _ _ _ _ _ _ _ _ _ _ _ _ _ _ _ _ _ _ _ _ _ _ _ _ _ _ _ _ _ _ _ _ _ _ _ _ _ _ _ (i + 1) (s') (D ++ [kd]) ?_))
    ·have:=HI.out.1; omega
    ·have hI:=HI.out
     refine ⟨by omega,by rw [List.length_append,hI.2]; rfl, ?_,HS.out⟩
     refine N2.out.write _ _ ?_
     rw [nodeV_put _ _ _ _ _ _ (by rw [pad_len D (by omega)]; omega),← hI.2,pad_set D kd (by omega)]
   ·have hb0 : bt = 0:=by omega
    subst hb0
    rw [decide_eq_false (by decide),if_neg (by decide)] at HK
    rw [HK.out] at HS
    replace ht : ((b : Int) / 2 ^ (7 - i % 8)).tmod 2 = 0:=ht
    clear HK hbs hbt
    go_wp2
    refine Handed.intro (16 - (i + 1)) ?_ (hJ1 _ _ _ (fun Φ hΦ=>hΦ _ _ _ _ _ _ _ _ _ _ _ _ _ _ _ _ _ _ _ _ _ _ _ _ _ _ _ _ _ _ _ _ _ _ _ _ _ _ _ _ _ _ _ _ _ _ _ _ _ _ _ _ _ _ _ _ _ _ _ _ _ _ _ _ _ _ _ _ _ _ _ _ _ _ _ _ _ _ _ _ _ _ _ _ _ _ _ _ (i + 1) (s) (D ++ [[]]) ?_))
    ·have:=HI.out.1; omega
    ·have hI:=HI.out
     refine ⟨by omega,by rw [List.length_append,hI.2]; rfl, ?_,HS.out⟩
     rw [pad_nil_set D (by omega)]
     exact HN.out
  ·obtain rfl : i = 16:=by omega
   have e : kidsR (x.toNat * 256 + y.toNat) 16 sq = (D,s):=by rw [h4]; simp [kidsR]
   rw [pad_full h2] at h3
   rw [e] at HQ
   have HN:=Lib.hid h3
   clear h1 h2 h3 h4 e hi
   go_wp2
   exact HQ.out _ _ _ _ _ _ _ _ _ _ _ _ _ _ _ _ _ _ _ _ _ _ _ _ _ _ _ _ _ _ _ _ _ _ _ _ _ _ _ _ _ _ _ _ _ _ _ _ _ _ _ _ _ _ _ _ _ _ _ _ _ _ _ _ _ _ _ _ _ _ _ _ _ _ _ _ _ _ _ _ _ _ _ _ _ _ _ _ _ _ _ HN.out
end Go.Proofs.YtomnlhbioijfhaaGreatDoor
