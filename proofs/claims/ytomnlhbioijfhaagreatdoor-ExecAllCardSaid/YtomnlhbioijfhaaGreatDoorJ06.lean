import Derived.Test.YtomnlhbioijfhaaGreatDoorJ01
import Derived.Test.YtomnlhbioijfhaaGreatDoorJ05
set_option linter.unusedSimpArgs false
set_option linter.unusedVariables false
namespace Go.Proofs.YtomnlhbioijfhaaGreatDoor
open Go.RowKit Go.Instr
attribute [local go_sem] ba_get ByteArray.mk_append_mk
theorem extract_drop (s : List UInt8) (c : Nat) : (ByteArray.mk s.toArray).extract c (ByteArray.mk s.toArray).size = ⟨(s.drop c).toArray⟩:=by
 apply ByteArray.ext
 rw [ByteArray.data_extract]
 show s.toArray.extract c s.toArray.size = _
 rw [List.extract_toArray]
 simp [List.take_of_length_le]
theorem extract_take (s : List UInt8) (c : Nat) : (ByteArray.mk s.toArray).extract 0 c = ⟨(s.take c).toArray⟩:=by
 apply ByteArray.ext
 rw [ByteArray.data_extract]
 show s.toArray.extract 0 c = _
 rw [List.extract_toArray]
 simp
theorem run_drop (s : List UInt8) (c : Nat) (h : c ≤ s.length) (w : World) : (Instr.slice 9 (.string ⟨s.toArray⟩) (some (.int .i64 (c : Int))) none none).run Tryz.prog w = .ok (.string ⟨(s.drop c).toArray⟩) w:=by
 have:=run_slice_string_l (P:=Tryz.prog) (t:=9) (s:=⟨s.toArray⟩) (w:=w) Tryz.underlying9 .i64 (c : Int) (by omega) (by show (c : Int) ≤ (s.toArray.size : Nat); simp; omega)
 rwa [show ((c : Int)).toNat = c by omega,extract_drop] at this
theorem run_take (s : List UInt8) (c : Nat) (h : c ≤ s.length) (w : World) : (Instr.slice 9 (.string ⟨s.toArray⟩) none (some (.int .i64 (c : Int))) none).run Tryz.prog w = .ok (.string ⟨(s.take c).toArray⟩) w:=by
 have:=run_slice_string_h (P:=Tryz.prog) (t:=9) (s:=⟨s.toArray⟩) (w:=w) Tryz.underlying9 .i64 (c : Int) (by omega) (by show (c : Int) ≤ (s.toArray.size : Nat); simp; omega)
 rwa [show ((c : Int)).toNat = c by omega,extract_take] at this
theorem run_tail (b : UInt8) (r : List UInt8) (w : World) : (Instr.slice 9 (.string ⟨(b :: r).toArray⟩) (some (.int .i64 1)) none none).run Tryz.prog w = .ok (.string ⟨r.toArray⟩) w:=run_drop (b :: r) 1 (by simp) w
theorem extract_mid (s : List UInt8) (a n : Nat) : (ByteArray.mk s.toArray).extract a (a + n) = ⟨((s.drop a).take n).toArray⟩:=by
 apply ByteArray.ext
 rw [ByteArray.data_extract]
 show s.toArray.extract a (a + n) = _
 rw [List.extract_toArray]
 simp
def RdB (w : World) (g : Nat) (all : List UInt8) (at_ code : Nat) : Prop:=Blk w g 155 #[.string ⟨all.toArray⟩,.int .i64 (at_ : Int),.int .i64 (code : Int)]
theorem RdB.cells {w : World} {g : Nat} {all : List UInt8} {a c : Nat} (h : RdB w g all a c) : w.cell? ⟨g,0,none⟩ = some (.string ⟨all.toArray⟩) ∧ w.cell? ⟨g,1,none⟩ = some (.int .i64 (a : Int)) ∧ w.cell? ⟨g,2,none⟩ = some (.int .i64 (c : Int)) ∧ w.frozen? ⟨g,1,none⟩ = false ∧ w.frozen? ⟨g,2,none⟩ = false :=
 ⟨Blk.cell h 0,Blk.cell h 1,Blk.cell h 2,Blk.frozen h 1,Blk.frozen h 2⟩
theorem code_Read (all : List UInt8) (w : World) :
  Calls Tryz.prog 63 #[.string ⟨all.toArray⟩] w fun e w'=>e = .returned (.pointer (some ⟨w.heap.size,0,none⟩)) ∧ w' = w.alloc (.cells #[.string ⟨all.toArray⟩,.int .i64 0,.int .i64 0] 155):=by
 go_enter Tryz.func63,Tryz.ntmps63
 go_wp2
 go_ret
 exact ⟨rfl,rfl⟩
def RdEnd (w : World) (g : Nat) (all : List UInt8) (v : Value) (at_ code : Nat) (e : Ending) (w' : World) : Prop:=e = .returned v ∧ RdB w' g all at_ code ∧ w.grownBy w' (some g)
theorem code_refused (w : World) (g : Nat) (all : List UInt8) (a c : Nat) (h : RdB w g all a c) (from_ e : Nat) :
  Calls Tryz.prog 102 #[.pointer (some ⟨g,0,none⟩),.int .i64 (from_ : Int),.int .i64 (e : Int)] w (RdEnd w g all (.tuple #[]) (if c = 0 then from_ else a) (if c = 0 then e else c)):=by
 obtain ⟨c0,c1,c2,f1,f2⟩:=h.cells
 have HH:=Lib.hid h
 by_cases hc : c = 0
 ·subst hc
  rw [if_pos rfl,if_pos rfl]
  have HP : Hid (∀ w',RdB w' g all from_ e → w.grownBy w' (some g) → RdEnd w g all (.tuple #[]) from_ e (.returned (.tuple #[])) w'):=Lib.hid (fun w' a b=>⟨rfl,a,b⟩)
  generalize RdEnd w g all (.tuple #[]) from_ e = P at HP ⊢
  clear h
  go_enter Tryz.func102,Tryz.ntmps102
  go_wp2
  go_end0
  refine HP.out _ ?_ ?_
  ·exact (Blk.set_ (Blk.set_ HH.out 1 (.int .i64 (from_ : Int))) 2 (.int .i64 (e : Int)))
  ·exact grown_set0 (grown_set0 (World.grownBy.refl _ _) _ _) _ _
 ·rw [if_neg hc,if_neg hc]
  have HP : Hid (∀ w',RdB w' g all a c → w.grownBy w' (some g) → RdEnd w g all (.tuple #[]) a c (.returned (.tuple #[])) w'):=Lib.hid (fun w' a b=>⟨rfl,a,b⟩)
  generalize RdEnd w g all (.tuple #[]) a c = P at HP ⊢
  have hc1 : ((c : Int) == 0) = false:=by simp; exact hc
  clear h hc
  go_enter Tryz.func102,Tryz.ntmps102
  go_wp2
  go_end0
  exact HP.out _ HH.out (World.grownBy.refl _ _)
theorem code_Left (w : World) (g : Nat) (all : List UInt8) (a c : Nat) (h : RdB w g all a c) (hl : all.length ≤ 1000000) (ha : a ≤ all.length) :
  Calls Tryz.prog 103 #[.pointer (some ⟨g,0,none⟩)] w (RdEnd w g all (.int .i64 ((all.length - a : Nat) : Int)) a c):=by
 obtain ⟨c0,c1,c2,f1,f2⟩:=h.cells
 have HH:=Lib.hid h
 have hv : IntKind.i64.wrap ((all.length : Int) - a) = ((all.length - a : Nat) : Int):=by rw [IntWalk.i64_in _ (by omega)]; omega
 have HP : Hid (∀ w',RdB w' g all a c → w.grownBy w' (some g) → RdEnd w g all (.int .i64 ((all.length - a : Nat) : Int)) a c (.returned (.int .i64 ((all.length - a : Nat) : Int))) w'):=Lib.hid (fun w' a b=>⟨rfl,a,b⟩)
 generalize RdEnd w g all (.int .i64 ((all.length - a : Nat) : Int)) a c = P at HP ⊢
 generalize ((all.length - a : Nat) : Int) = d at *
 clear h
 go_enter Tryz.func103,Tryz.ntmps103
 go_wp2
 go_quiet (fail)
 go_wp2
 exact HP.out _ HH.out ⟨rfl,rfl,rfl,Nat.le_refl _,fun _ _ _=>rfl⟩
set_option maxHeartbeats 1000000 in
theorem code_take (w : World) (g : Nat) (all : List UInt8) (a c : Nat) (h : RdB w g all a c) (hl : all.length ≤ 1000000) (ha : a ≤ all.length) (n : Nat) (hn : n < 9223372036854775808) :
  Calls Tryz.prog 134 #[.pointer (some ⟨g,0,none⟩),.int .i64 (n : Int)] w (RdEnd w g all (.tuple #[.string ⟨(if n ≤ (all.drop a).length then (all.drop a).take n else []).toArray⟩,.bool (decide (n ≤ (all.drop a).length))]) (if n ≤ (all.drop a).length then a + n else a) c):=by
 obtain ⟨c0,c1,c2,f1,f2⟩:=h.cells
 have HH:=Lib.hid h
 have hv : IntKind.i64.wrap ((all.length : Int) - a) = (all.length : Int) - a:=IntWalk.i64_in _ (by omega)
 rw [List.length_drop]
 by_cases hle : n ≤ all.length - a
 ·rw [if_pos hle,if_pos hle,decide_eq_true hle]
  have HP : Hid (∀ w',RdB w' g all (a + n) c → w.grownBy w' (some g) → RdEnd w g all (.tuple #[.string ⟨((all.drop a).take n).toArray⟩,.bool true]) (a + n) c (.returned (.tuple #[.string ⟨((all.drop a).take n).toArray⟩,.bool true])) w'):=Lib.hid (fun w' a b=>⟨rfl,a,b⟩)
  generalize RdEnd w g all (.tuple #[.string ⟨((all.drop a).take n).toArray⟩,.bool true]) (a + n) c = P at HP ⊢
  have hgt : ((all.length : Int) - a < n) = False:=by simp; omega
  have hv2 : IntKind.i64.wrap ((a : Int) + n) = (a : Int) + n:=IntWalk.i64_in _ (by omega)
  have hr : ∀ W,(Instr.slice 9 (.string ⟨all.toArray⟩) (some (.int .i64 (a : Int))) (some (.int .i64 ((a : Int) + n))) none).run Tryz.prog W = .ok (.string ⟨((all.drop a).take n).toArray⟩) W:=fun W=>by
   have:=run_slice_string_if (P:=Tryz.prog) (w:=W) 9 ⟨all.toArray⟩ .i64 .i64 (a : Int) ((a : Int) + n) Tryz.underlying9
   rw [if_pos ⟨by omega,by show (a : Int) + n ≤ (all.toArray.size : Nat); simp; omega⟩,if_pos ⟨by omega,by omega⟩] at this
   rwa [show ((a : Int)).toNat = a by omega,show ((a : Int) + n).toNat = a + n by omega,extract_mid] at this
  have hs0 : (a : Int) + n ≤ 1000000:=by omega
  clear h hle
  generalize (all.drop a).take n = piece at *
  go_enter Tryz.func134,Tryz.ntmps134
  go_wp2
  go_quiet (fail)
  go_wp2
  go_quiet (fail)
  go_wp2
  exact HP.out _ (Blk.set_ HH.out 1 (.int .i64 ((a : Int) + n))) (grown_set0 (only_drewN (World.grownBy.refl _ _) _) _ _)
 ·rw [if_neg hle,if_neg hle,decide_eq_false hle]
  have HP : Hid (∀ w',RdB w' g all a c → w.grownBy w' (some g) → RdEnd w g all (.tuple #[.string ⟨[].toArray⟩,.bool false]) a c (.returned (.tuple #[.string ⟨#[]⟩,.bool false])) w'):=Lib.hid (fun w' a b=>⟨rfl,a,b⟩)
  generalize RdEnd w g all (.tuple #[.string ⟨[].toArray⟩,.bool false]) a c = P at HP ⊢
  have hgt : ((all.length : Int) - a < n) = True:=by simp; omega
  clear h hle
  go_enter Tryz.func134,Tryz.ntmps134
  go_wp2
  go_quiet (fail)
  go_wp2
  exact HP.out _ HH.out ⟨rfl,rfl,rfl,Nat.le_refl _,fun _ _ _=>rfl⟩
theorem valBE_take (b : List UInt8) (i : Nat) (hi : i < b.length) : valBE (b.take (i + 1)) = valBE (b.take i) * 256 + (b.getD i 0).toNat:=by
 rw [List.take_succ_eq_append_getElem hi,valBE_snoc,List.getD_eq_getElem?_getD,List.getElem?_eq_getElem hi]
 rfl
theorem valBE_mono (b : List UInt8) : ∀ i,valBE (b.take i) ≤ valBE b:=by
 induction b using snoc_ind with
 | h0=>intro i; simp
 | h1 c x ih =>
  intro i
  rw [valBE_snoc]
  by_cases h : i ≤ c.length
  ·rw [List.take_append_of_le_length h]
   have:=ih i
   omega
  ·rw [List.take_of_length_le (by simp; omega),valBE_snoc]
   omega
theorem or_of' {x y : Nat} (k : Nat) (hy : y < 2 ^ k) : x * 2 ^ k ||| y = x * 2 ^ k + y:=by
 rw [← Nat.shiftLeft_eq,Nat.shiftLeft_add_eq_or_of_lt hy]
set_option maxRecDepth 100000 in
theorem i64_or_byte (n : Nat) (b : Nat) (hb : b < 256) (h : n * 256 + b < 9223372036854775808) : bits .or .i64 ((n : Int) * 256) (b : Int) = ((n * 256 + b : Nat) : Int):=by
 have e1 : (n : Int) * 256 = ((n * 256 : Nat) : Int):=by omega
 have h1 : n * 256 < 9223372036854775808:=by omega
 have h2 : b < 9223372036854775808:=by omega
 have e3 : (2 : Nat) ^ 8 = 256:=by decide
 have e2:=or_of' (x:=n) 8 (y:=b) (by rw [e3]; exact hb)
 rw [e3] at e2
 rw [e1,i64_or_nat (n * 256) b h1 h2,e2]
theorem run_byte (l : List UInt8) (i : Nat) (hi : i < l.length) (W : World) : (Instr.index 9 (.string ⟨l.toArray⟩) (.int .i64 (i : Int))).run Tryz.prog W = .ok (.int .u8 ((l.getD i 0).toNat : Int)) W := by
  have hsz : ((i : Int)).toNat < (ByteArray.mk l.toArray).size := by simpa [ByteArray.size] using hi
  rw [run_index_string W 9 ⟨l.toArray⟩ .i64 (i : Int) Tryz.underlying9]
  have e : (ByteArray.mk l.toArray)[((i : Int)).toNat]'hsz = l.getD i 0 := by
    rw [ba_get]
    simp [List.getD_eq_getElem?_getD, hi]
  rw [dif_pos ⟨by omega, by have e2 : (ByteArray.mk l.toArray).size = l.length := by simp [ByteArray.size]
                            omega⟩, e]
set_option maxRecDepth 100000 in
set_option maxHeartbeats 1000000 in
theorem number_loop (b : List UInt8) (hl : b.length ≤ 8) (hv : valBE b < 9223372036854775808) (w0 : World)
  (Q : Exit → Act → World → Prop) (p0 : Value)
  (hQ : ∀ (s1 s2 s3 s4 s5 s6 s8 s9 s10 s11 s12 s13 s14 s15 s16 s17 s18 s19 s20 s21 s22 s23 s24 s25 s26 s27 s28 s29 s30 s31 s32 s33 s34 s35 s36 s37 s38 s39 s40 s41 s42 s43 s44 s45 s46 s47 s48 s49 s50 s51 s52 s53 s54 s55 s56 s57 s58 s59 s60 s61 s62 s63 s64 s65 s66 s67 s68 s69 : Value),Q (.exit 0) { tmps:=#[p0,s1,s2,s3,s4,s5,s6,.int .i64 (valBE b : Int),s8,s9,s10,s11,s12,s13,s14,s15,s16,s17,s18,s19,s20,s21,s22,s23,s24,s25,s26,s27,s28,s29,s30,s31,s32,s33,s34,s35,s36,s37,s38,s39,s40,s41,s42,s43,s44,s45,s46,s47,s48,s49,s50,s51,s52,s53,s54,s55,s56,s57,s58,s59,s60,s61,s62,s63,s64,s65,s66,s67,s68,s69],defers := [] } w0)
  (s1 s2 s3 s4 s5 s8 s9 s10 s11 s12 s13 s14 s15 s16 s17 s18 s19 s20 s21 s22 s23 s24 s25 s26 s27 s28 s29 s30 s31 s32 s33 s34 s35 s36 s37 s38 s39 s40 s41 s42 s43 s44 s45 s46 s47 s48 s49 s50 s51 s52 s53 s54 s55 s56 s59 s60 s61 s62 s63 s64 s65 s66 s67 s68 s69 : Value) :
  Code.wp Tryz.prog (.loop (loopAt Tryz.f101 0)) Q { tmps:=#[p0,s1,s2,s3,s4,s5,.string ⟨b.toArray⟩,.int .i64 0,s8,s9,s10,s11,s12,s13,s14,s15,s16,s17,s18,s19,s20,s21,s22,s23,s24,s25,s26,s27,s28,s29,s30,s31,s32,s33,s34,s35,s36,s37,s38,s39,s40,s41,s42,s43,s44,s45,s46,s47,s48,s49,s50,s51,s52,s53,s54,s55,s56,.int .i64 b.length,.int .i64 0,s59,s60,s61,s62,s63,s64,s65,s66,s67,s68,s69],defers := [] } w0:=by
 have HQ:=Lib.hid hQ
 clear hQ
 refine wp_loop_ghost_k (fun k a wr => ∀ Φ : Act → Prop,(∀ (s1 s2 s3 s4 s5 s8 s9 s10 s11 s12 s13 s14 s15 s16 s17 s18 s19 s20 s21 s22 s23 s24 s25 s26 s27 s28 s29 s30 s31 s32 s33 s34 s35 s36 s37 s38 s39 s40 s41 s42 s43 s44 s45 s46 s47 s48 s49 s50 s51 s52 s53 s54 s55 s56 s59 s60 s61 s62 s63 s64 s65 s66 s67 s68 s69 : Value) (i n : Nat),(i + k = b.length ∧ valBE (b.take i) = n ∧ wr = w0) → Φ { tmps:=#[p0,s1,s2,s3,s4,s5,.string ⟨b.toArray⟩,.int .i64 (n : Int),s8,s9,s10,s11,s12,s13,s14,s15,s16,s17,s18,s19,s20,s21,s22,s23,s24,s25,s26,s27,s28,s29,s30,s31,s32,s33,s34,s35,s36,s37,s38,s39,s40,s41,s42,s43,s44,s45,s46,s47,s48,s49,s50,s51,s52,s53,s54,s55,s56,.int .i64 b.length,.int .i64 (i : Int),s59,s60,s61,s62,s63,s64,s65,s66,s67,s68,s69],defers := [] }) → Φ a) (b.length) ?_ ?_
 ·refine fun Φ hΦ=>hΦ _ _ _ _ _ _ _ _ _ _ _ _ _ _ _ _ _ _ _ _ _ _ _ _ _ _ _ _ _ _ _ _ _ _ _ _ _ _ _ _ _ _ _ _ _ _ _ _ _ _ _ _ _ _ _ _ _ _ _ _ _ _ _ _ _ (0) (0) ?_
  exact ⟨by omega,by simp [valBE],rfl⟩
 ·intro k1 a1 wr1 hI1 J1 K1 hJ1 hK1
  refine hI1 (fun a=>Code.wp _ _ _ a _) ?_
  clear hI1 a1
  intro s0 s1 s2 s3 s4 s5 s6 s7 s8 s9 s10 s11 s12 s13 s14 s15 s16 s17 s18 s19 s20 s21 s22 s23 s24 s25 s26 s27 s28 s29 s30 s31 s32 s33 s34 s35 s36 s37 s38 s39 s40 s41 s42 s43 s44 s45 s46 s47 s48 s49 s50 s51 s52 s53 s54 s55 s56 s57 s58 s59 s60 s61 s62 s63 s64 i n hrel
  show Code.wp _ _ _ _ _
  conv=>arg 2; whnf
  obtain ⟨h1,h2,rfl⟩:=hrel
  by_cases hi : i < b.length
  ·have h3:=valBE_take b i hi
   have h4:=valBE_mono b (i + 1)
   have hx:=(b.getD i 0).toNat_lt
   have HN : Hid (valBE (b.take (i + 1)) = n * 256 + (b.getD i 0).toNat):=Lib.hid (by rw [h3,h2])
   have hsum : n * 256 + (b.getD i 0).toNat < 9223372036854775808:=by rw [h2] at h3; omega
   have hor:=i64_or_byte n (b.getD i 0).toNat (by omega) hsum
   have hix:=fun W=>run_byte b i hi W
   have HI:=Lib.hid h1
   have hi1 : (i : Int) < b.length:=by omega
   have hi0 : (0 : Int) ≤ i:=by omega
   have hl8 : (b.length : Int) ≤ 8:=by omega
   have hn0 : (0 : Int) ≤ n:=by omega
   have hn1 : (n : Int) ≤ 36028797018963967:=by omega
   clear h1 h2 h3 h4
   generalize b.getD i 0 = x at *
   go_wp2_with fail
   refine Handed.intro (b.length - (i + 1)) ?_ (hJ1 _ _ _ (fun Φ hΦ=>hΦ _ _ _ _ _ _ _ _ _ _ _ _ _ _ _ _ _ _ _ _ _ _ _ _ _ _ _ _ _ _ _ _ _ _ _ _ _ _ _ _ _ _ _ _ _ _ _ _ _ _ _ _ _ _ _ _ _ _ _ _ _ _ _ _ _ (i + 1) (n * 256 + x.toNat) ?_))
   ·have:=HI.out
    show b.length - (i + 1) < k1
    omega
   ·have:=HI.out
    exact ⟨by omega,HN.out,rfl⟩
  ·have e : b.take i = b:=List.take_of_length_le (by omega)
   rw [e] at h2
   subst h2
   have hi2 : ((i : Int) < b.length) = False:=by simp; omega
   clear h1 hi e
   go_wp2_with fail
   exact HQ.out _ _ _ _ _ _ _ _ _ _ _ _ _ _ _ _ _ _ _ _ _ _ _ _ _ _ _ _ _ _ _ _ _ _ _ _ _ _ _ _ _ _ _ _ _ _ _ _ _ _ _ _ _ _ _ _ _ _ _ _ _ _ _ _ _ _ _ _
def NumbEnd (w : World) (g : Nat) (all : List UInt8) (a : Nat) (r : Nat × List UInt8 × Nat) (e : Ending) (w' : World) : Prop :=
 ∃ a',e = .returned (.tuple #[.int .i64 (r.1 : Int),.int .i64 (r.2.2 : Int)]) ∧ RdB w' g all a' 0 ∧ a' ≤ all.length ∧ (r.2.2 = 0 → all.drop a' = r.2.1) ∧ w.grownBy w' (some g)
set_option maxRecDepth 100000 in
set_option maxHeartbeats 1000000 in
theorem code_number (w : World) (g : Nat) (all : List UInt8) (a : Nat) (h : RdB w g all a 0) (hl : all.length ≤ 1000000) (ha : a ≤ all.length) :
  Calls Tryz.prog 101 #[.pointer (some ⟨g,0,none⟩)] w (NumbEnd w g all a (numT (all.drop a))):=by
 have HP : Hid (∀ (n : Nat) rest c a' w',numT (all.drop a) = (n,rest,c) → RdB w' g all a' 0 → a' ≤ all.length → (c = 0 → all.drop a' = rest) → w.grownBy w' (some g) → NumbEnd w g all a (numT (all.drop a)) (.returned (.tuple #[.int .i64 (n : Int),.int .i64 (c : Int)])) w'):=Lib.hid (fun n rest c a' w' e h1 h2 h3 h4=>by
  unfold NumbEnd
  rw [e]
  exact ⟨a',rfl,h1,h2,h3,h4⟩)
 generalize NumbEnd w g all a (numT (all.drop a)) = P at HP ⊢
 obtain ⟨c0,c1,c2,f1,f2⟩:=h.cells
 have T1:=code_take w g all a 0 h hl ha 1 (by omega)
 have HH:=Lib.hid h
 have HL:=Lib.hid hl
 have HA:=Lib.hid ha
 clear h hl ha
 cases hr : all.drop a with
 | nil =>
  rw [hr] at T1
  have HE : Hid (numT (all.drop a) = (0, [],20)):=Lib.hid (by rw [hr]; rfl)
  simp only [List.length_nil,show ¬ (1 ≤ 0) by omega,if_false,decide_false] at T1
  have HT:=Lib.hid T1
  clear T1 hr c1 f1
  go_enter Tryz.func101,Tryz.ntmps101
  go_wp2_with fail
  refine HT.out.mono ?_
  rintro e w1 ⟨rfl,hb1,hg1⟩
  go_wp2_with fail
  exact HP.out 0 [] 20 a _ HE.out hb1 HA.out (fun e=>by cases e) hg1
 | cons k r =>
  have hlt : a < all.length:=by
   rcases Nat.lt_or_ge a all.length with h | h
   ·exact h
   ·rw [List.drop_of_length_le h] at hr; cases hr
  have hr1 : all.drop (a + 1) = r:=by
   have:=congrArg List.tail hr
   rwa [List.tail_drop,List.tail_cons] at this
  rw [hr] at T1
  simp only [List.length_cons,show 1 ≤ r.length + 1 by omega,if_true,decide_true,List.take_succ_cons,List.take_zero] at T1
  have HT:=Lib.hid T1
  have hE:=numT_cons k r
  rw [← hr] at hE
  have hk256:=k.toNat_lt
  have HE:=Lib.hid hE
  have HR1:=Lib.hid hr1
  have HLt:=Lib.hid hlt
  have hix:=fun W=>run_byte [k] 0 (by simp) W
  simp only [List.getD_cons_zero] at hix
  clear T1 hr hr1 hE hlt c1 f1
  by_cases h8 : 8 < k.toNat
  ·have hE2:=HE.out
   rw [if_pos h8] at hE2
   have HE2:=Lib.hid hE2
   have h8I : (8 : Int) < (k.toNat : Int):=by omega
   clear hE2 HE h8
   go_enter Tryz.func101,Tryz.ntmps101
   go_wp2_with fail
   refine HT.out.mono ?_
   rintro e w1 ⟨rfl,hb1,hg1⟩
   go_wp2_with fail
   exact HP.out 0 [] 3 (a + 1) _ HE2.out hb1 HLt.out (fun e=>by cases e) hg1
  ·have h8I : ((8 : Int) < (k.toNat : Int)) = False:=by simp; omega
   have HE1 : Hid (numT (all.drop a) = if r.length < k.toNat then (0, [],20) else if (0 < k.toNat ∧ r.getD 0 0 = 0) ∨ (k.toNat = 8 ∧ 128 ≤ (r.getD 0 0).toNat) then (0, [],3) else (valBE (r.take k.toNat),r.drop k.toNat,0)):=Lib.hid (by rw [HE.out,if_neg h8])
   have HT2 : Hid (∀ W,RdB W g all (a + 1) 0 → Calls Tryz.prog 134 #[.pointer (some ⟨g,0,none⟩),.int .i64 (k.toNat : Int)] W (RdEnd W g all (.tuple #[.string ⟨(if k.toNat ≤ r.length then r.take k.toNat else []).toArray⟩,.bool (decide (k.toNat ≤ r.length))]) (if k.toNat ≤ r.length then a + 1 + k.toNat else a + 1) 0)):=Lib.hid (fun W hW=>by
    have:=code_take W g all (a + 1) 0 hW HL.out HLt.out k.toNat (by omega)
    rwa [HR1.out] at this)
   clear HE
   have hk8 : Hid (k.toNat ≤ 8):=Lib.hid (by omega)
   clear h8
   by_cases hle : k.toNat ≤ r.length
   ·rw [if_pos hle,if_pos hle,decide_eq_true hle] at HT2
    have HE2 : Hid (numT (all.drop a) = if (0 < k.toNat ∧ r.getD 0 0 = 0) ∨ (k.toNat = 8 ∧ 128 ≤ (r.getD 0 0).toNat) then (0, [],3) else (valBE (r.take k.toNat),r.drop k.toNat,0)):=Lib.hid (by rw [HE1.out,if_neg (by omega)])
    have HLe : Hid (a + 1 + k.toNat ≤ all.length ∧ all.drop (a + 1 + k.toNat) = r.drop k.toNat):=Lib.hid (by
     have h0:=HLt.out
     have h1:=congrArg List.length HR1.out
     rw [List.length_drop] at h1
     exact ⟨by omega,by rw [← HR1.out,List.drop_drop]⟩)
    have hbl : (r.take k.toNat).length = k.toNat:=by rw [List.length_take]; omega
    have HBl:=Lib.hid hbl
    clear HE1 hle hbl
    generalize hbb : r.take k.toNat = b at *
    clear hix
    have HX : Hid (∀ x t,b = x :: t → r.getD 0 0 = x):=Lib.hid (fun x t e=>by
     rw [e] at hbb
     cases r with
     | nil=>simp at hbb
     | cons y u =>
      have hk : k.toNat = t.length + 1:=by have:=HBl.out; rw [e] at this; simpa using this.symm
      rw [hk,List.take_succ_cons] at hbb
      injection hbb with h1 _)
    generalize r.drop k.toNat = rest at *
    clear hbb
    rcases Nat.eq_zero_or_pos b.length with hb0 | hb0
    ·obtain rfl : b = []:=List.eq_nil_of_length_eq_zero hb0
     have HE3 : Hid (numT (all.drop a) = (valBE [],rest,0)):=Lib.hid (by
      have h0:=HBl.out
      simp at h0
      rw [HE2.out,if_neg (by omega)])
     clear HE2 hb0
     go_enter Tryz.func101,Tryz.ntmps101
     go_wp2_with fail
     refine HT.out.mono ?_
     rintro e w1 ⟨rfl,hb1,hg1⟩
     have HG1:=Lib.hid (And.intro hb1 hg1)
     clear hb1 hg1
     go_wp2_with fail
     refine (HT2.out _ HG1.out.1).mono ?_
     rintro e w2 ⟨rfl,hb2,hg2⟩
     have HG2:=Lib.hid (And.intro hb2 (HG1.out.2.trans hg2))
     clear hb2 hg2
     go_wp2_with fail
     refine number_loop _ (by have h0:=hk8.out; have h1:=HBl.out; omega) (numT_lt HE3.out) w2 _ _ ?_ _ _ _ _ _ _ _ _ _ _ _ _ _ _ _ _ _ _ _ _ _ _ _ _ _ _ _ _ _ _ _ _ _ _ _ _ _ _ _ _ _ _ _ _ _ _ _ _ _ _ _ _ _ _ _ _ _ _ _ _ _ _ _ _ _
     intro s1 s2 s3 s4 s5 s6 s8 s9 s10 s11 s12 s13 s14 s15 s16 s17 s18 s19 s20 s21 s22 s23 s24 s25 s26 s27 s28 s29 s30 s31 s32 s33 s34 s35 s36 s37 s38 s39 s40 s41 s42 s43 s44 s45 s46 s47 s48 s49 s50 s51 s52 s53 s54 s55 s56 s57 s58 s59 s60 s61 s62 s63 s64 s65 s66 s67 s68 s69
     have HF:=Lib.hid (HP.out _ _ 0 _ _ HE3.out HG2.out.1 HLe.out.1 (fun _=>HLe.out.2) HG2.out.2)
     clear HE3
     generalize valBE _ = v at HF ⊢
     go_wp2_with fail
     exact HF.out
    ·obtain ⟨x,hx⟩ : ∃ x,b.getD 0 0 = x:=⟨_,rfl⟩
     have hx0 : r.getD 0 0 = x:=by
      cases b with
      | nil=>simp at hb0
      | cons y u=>rw [HX.out y u rfl,← hx]; rfl
     rw [hx0] at HE2
     have hjx : ∀ W,(Instr.index 9 (.string ⟨b.toArray⟩) (.int .i64 0)).run Tryz.prog W = .ok (.int .u8 (x.toNat : Int)) W:=fun W=>by
      have:=run_byte b 0 hb0 W
      rwa [hx] at this
     have hx256:=x.toNat_lt
     have hlp : (0 : Int) < b.length:=by omega
     have HB0:=Lib.hid hb0
     clear hx0 hx hb0
     by_cases hz : x = 0
     ·have HE3 : Hid (numT (all.drop a) = (0, [],3)):=Lib.hid (by rw [HE2.out,if_pos (.inl ⟨by have h0:=HBl.out; have h1:=HB0.out; omega,hz⟩)])
      have hz1 : ((x.toNat : Int) == 0) = true:=by simp [hz]
      clear HE2 hz
      go_enter Tryz.func101,Tryz.ntmps101
      go_wp2_with fail
      refine HT.out.mono ?_
      rintro e w1 ⟨rfl,hb1,hg1⟩
      have HG1:=Lib.hid (And.intro hb1 hg1)
      clear hb1 hg1
      go_wp2_with fail
      refine (HT2.out _ HG1.out.1).mono ?_
      rintro e w2 ⟨rfl,hb2,hg2⟩
      have HG2:=Lib.hid (And.intro hb2 (HG1.out.2.trans hg2))
      clear hb2 hg2
      go_wp2_with fail
      exact HP.out 0 [] 3 _ _ HE3.out HG2.out.1 HLe.out.1 (fun e=>by cases e) HG2.out.2
     ·have hz0 : x.toNat ≠ 0:=fun e=>hz (UInt8.toNat_inj.1 e)
      have hz1 : ((x.toNat : Int) == 0) = false:=by simp; exact hz0
      by_cases h88 : b.length = 8
      ·have h88I : ((b.length : Int) == 8) = true:=by rw [beq_iff_eq]; omega
       by_cases h128 : 128 ≤ x.toNat
       ·have HE3 : Hid (numT (all.drop a) = (0, [],3)):=Lib.hid (by rw [HE2.out,if_pos (.inr ⟨HBl.out.symm.trans h88,h128⟩)])
        have h9 : (128 : Int) ≤ x.toNat:=by omega
        clear HE2 hz hz0 h88 h128
        go_enter Tryz.func101,Tryz.ntmps101
        go_wp2_with fail
        refine HT.out.mono ?_
        rintro e w1 ⟨rfl,hb1,hg1⟩
        have HG1:=Lib.hid (And.intro hb1 hg1)
        clear hb1 hg1
        go_wp2_with fail
        refine (HT2.out _ HG1.out.1).mono ?_
        rintro e w2 ⟨rfl,hb2,hg2⟩
        have HG2:=Lib.hid (And.intro hb2 (HG1.out.2.trans hg2))
        clear hb2 hg2
        go_wp2_with fail
        exact HP.out 0 [] 3 _ _ HE3.out HG2.out.1 HLe.out.1 (fun e=>by cases e) HG2.out.2
       ·have HE3 : Hid (numT (all.drop a) = (valBE b,rest,0)):=Lib.hid (by
         rw [HE2.out,if_neg]
         rintro (⟨_,h⟩ | ⟨_,h⟩)
         ·exact hz h
         ·exact h128 h)
        have h9 : ((128 : Int) ≤ x.toNat) = False:=by simp; omega
        clear HE2 hz hz0 h88 h128
        go_enter Tryz.func101,Tryz.ntmps101
        go_wp2_with fail
        refine HT.out.mono ?_
        rintro e w1 ⟨rfl,hb1,hg1⟩
        have HG1:=Lib.hid (And.intro hb1 hg1)
        clear hb1 hg1
        go_wp2_with fail
        refine (HT2.out _ HG1.out.1).mono ?_
        rintro e w2 ⟨rfl,hb2,hg2⟩
        have HG2:=Lib.hid (And.intro hb2 (HG1.out.2.trans hg2))
        clear hb2 hg2
        go_wp2_with fail
        refine number_loop _ (by have h0:=hk8.out; have h1:=HBl.out; omega) (numT_lt HE3.out) w2 _ _ ?_ _ _ _ _ _ _ _ _ _ _ _ _ _ _ _ _ _ _ _ _ _ _ _ _ _ _ _ _ _ _ _ _ _ _ _ _ _ _ _ _ _ _ _ _ _ _ _ _ _ _ _ _ _ _ _ _ _ _ _ _ _ _ _ _ _
        intro s1 s2 s3 s4 s5 s6 s8 s9 s10 s11 s12 s13 s14 s15 s16 s17 s18 s19 s20 s21 s22 s23 s24 s25 s26 s27 s28 s29 s30 s31 s32 s33 s34 s35 s36 s37 s38 s39 s40 s41 s42 s43 s44 s45 s46 s47 s48 s49 s50 s51 s52 s53 s54 s55 s56 s57 s58 s59 s60 s61 s62 s63 s64 s65 s66 s67 s68 s69
        have HF:=Lib.hid (HP.out _ _ 0 _ _ HE3.out HG2.out.1 HLe.out.1 (fun _=>HLe.out.2) HG2.out.2)
        clear HE3
        generalize valBE _ = v at HF ⊢
        go_wp2_with fail
        exact HF.out
      ·have h88I : ((b.length : Int) == 8) = false:=by
        rw [beq_eq_false_iff_ne]; intro e; apply h88; omega
       have HE3 : Hid (numT (all.drop a) = (valBE b,rest,0)):=Lib.hid (by
        rw [HE2.out,if_neg]
        rintro (⟨_,h⟩ | ⟨h,_⟩)
        ·exact hz h
        ·exact h88 (HBl.out.trans h))
       clear HE2 hz hz0 h88
       go_enter Tryz.func101,Tryz.ntmps101
       go_wp2_with fail
       refine HT.out.mono ?_
       rintro e w1 ⟨rfl,hb1,hg1⟩
       have HG1:=Lib.hid (And.intro hb1 hg1)
       clear hb1 hg1
       go_wp2_with fail
       refine (HT2.out _ HG1.out.1).mono ?_
       rintro e w2 ⟨rfl,hb2,hg2⟩
       have HG2:=Lib.hid (And.intro hb2 (HG1.out.2.trans hg2))
       clear hb2 hg2
       go_wp2_with fail
       refine number_loop _ (by have h0:=hk8.out; have h1:=HBl.out; omega) (numT_lt HE3.out) w2 _ _ ?_ _ _ _ _ _ _ _ _ _ _ _ _ _ _ _ _ _ _ _ _ _ _ _ _ _ _ _ _ _ _ _ _ _ _ _ _ _ _ _ _ _ _ _ _ _ _ _ _ _ _ _ _ _ _ _ _ _ _ _ _ _ _ _ _ _
       intro s1 s2 s3 s4 s5 s6 s8 s9 s10 s11 s12 s13 s14 s15 s16 s17 s18 s19 s20 s21 s22 s23 s24 s25 s26 s27 s28 s29 s30 s31 s32 s33 s34 s35 s36 s37 s38 s39 s40 s41 s42 s43 s44 s45 s46 s47 s48 s49 s50 s51 s52 s53 s54 s55 s56 s57 s58 s59 s60 s61 s62 s63 s64 s65 s66 s67 s68 s69
       have HF:=Lib.hid (HP.out _ _ 0 _ _ HE3.out HG2.out.1 HLe.out.1 (fun _=>HLe.out.2) HG2.out.2)
       clear HE3
       generalize valBE _ = v at HF ⊢
       go_wp2_with fail
       exact HF.out
   ·rw [if_neg hle,if_neg hle,decide_eq_false hle] at HT2
    have HE2 : Hid (numT (all.drop a) = (0, [],20)):=Lib.hid (by rw [HE1.out,if_pos (by omega)])
    clear HE1 hle
    go_enter Tryz.func101,Tryz.ntmps101
    go_wp2_with fail
    refine HT.out.mono ?_
    rintro e w1 ⟨rfl,hb1,hg1⟩
    have HG1:=Lib.hid (And.intro hb1 hg1)
    clear hb1 hg1
    go_wp2_with fail
    refine (HT2.out _ HG1.out.1).mono ?_
    rintro e w2 ⟨rfl,hb2,hg2⟩
    go_wp2_with fail
    exact HP.out 0 [] 20 (a + 1) _ HE2.out hb2 HLt.out (fun e=>by cases e) (HG1.out.2.trans hg2)
def Rdr (w : World) (g : Nat) (s : List UInt8 × Nat) : Prop := ∃ all a,RdB w g all a s.2 ∧ a ≤ all.length ∧ all.length ≤ 1000000 ∧ all.drop a = s.1
theorem Rdr.lt {w : World} {g : Nat} {s : List UInt8 × Nat} (h : Rdr w g s) : g < w.heap.size:=by
 obtain ⟨all,a,h1,_⟩:=h
 exact Blk.lt h1
theorem Rdr.drew {w : World} {g : Nat} {s : List UInt8 × Nat} (h : Rdr w g s) : Rdr w.drew g s:=h
def RdrEnd (w : World) (g : Nat) (v : Value) (s : List UInt8 × Nat) (e : Ending) (w' : World) : Prop:=e = .returned v ∧ Rdr w' g s ∧ w.grownBy w' (some g)
def numS (s : List UInt8 × Nat) : Nat × (List UInt8 × Nat):=if s.2 ≠ 0 then (0,s) else if (numT s.1).2.2 = 0 then ((numT s.1).1,((numT s.1).2.1,0)) else (0,(s.1,(numT s.1).2.2))
def endS (s : List UInt8 × Nat) : Nat:=if s.2 = 0 ∧ s.1 ≠ [] then 3 else s.2
theorem code_number_no (w : World) (g : Nat) (all : List UInt8) (a c : Nat) (h : RdB w g all a c) (hc : c ≠ 0) :
  Calls Tryz.prog 101 #[.pointer (some ⟨g,0,none⟩)] w (RdEnd w g all (.tuple #[.int .i64 0,.int .i64 (c : Int)]) a c):=by
 obtain ⟨c0,c1,c2,f1,f2⟩:=h.cells
 have HH:=Lib.hid h
 have HP : Hid (∀ w',RdB w' g all a c → w.grownBy w' (some g) → RdEnd w g all (.tuple #[.int .i64 0,.int .i64 (c : Int)]) a c (.returned (.tuple #[.int .i64 0,.int .i64 (c : Int)])) w'):=Lib.hid (fun w' a b=>⟨rfl,a,b⟩)
 generalize RdEnd w g all (.tuple #[.int .i64 0,.int .i64 (c : Int)]) a c = P at HP ⊢
 have hc1 : ((c : Int) != 0) = true:=by simp; exact hc
 clear h hc
 go_enter Tryz.func101,Tryz.ntmps101
 go_wp2
 go_quiet (fail)
 go_wp2
 exact HP.out _ HH.out (only_drewN (World.grownBy.refl _ _) _)
set_option maxHeartbeats 1000000 in
theorem code_RNum (w : World) (g : Nat) (s : List UInt8 × Nat) (h : Rdr w g s) :
  Calls Tryz.prog 64 #[.pointer (some ⟨g,0,none⟩)] w (RdrEnd w g (.int .i64 ((numS s).1 : Int)) (numS s).2):=by
 obtain ⟨rest,c⟩:=s
 obtain ⟨all,a,hB,ha,hl,hr⟩:=h
 simp only at hB hr
 subst hr
 have HP : Hid (∀ (n : Nat) s' w',numS (all.drop a,c) = (n,s') → Rdr w' g s' → w.grownBy w' (some g) → RdrEnd w g (.int .i64 ((numS (all.drop a,c)).1 : Int)) (numS (all.drop a,c)).2 (.returned (.int .i64 (n : Int))) w'):=Lib.hid (fun n s' w' e h1 h2=>by rw [e]; exact ⟨rfl,h1,h2⟩)
 generalize RdrEnd w g (.int .i64 ((numS (all.drop a,c)).1 : Int)) (numS (all.drop a,c)).2 = P at HP ⊢
 obtain ⟨c0,c1,c2,f1,f2⟩:=hB.cells
 have HB:=Lib.hid hB
 have HL:=Lib.hid (And.intro ha hl)
 by_cases hc : c = 0
 ·subst hc
  have HN:=Lib.hid (code_number w g all a hB hl ha)
  clear hB ha hl
  cases he : (numT (all.drop a)).2.2 with
  | zero =>
   have HS : Hid (numS (all.drop a,0) = ((numT (all.drop a)).1,((numT (all.drop a)).2.1,0))):=Lib.hid (by simp [numS,he])
   unfold NumbEnd at HN
   rw [he] at HN
   clear he
   generalize (numT (all.drop a)).1 = n at *
   generalize (numT (all.drop a)).2.1 = r at *
   go_enter Tryz.func64,Tryz.ntmps64
   go_wp2_with fail
   refine HN.out.mono ?_
   rintro e w1 ⟨a',rfl,h1,h2,h3,h4⟩
   have HF:=Lib.hid (HP.out n (r,0) w1 HS.out ⟨all,a',h1,h2,HL.out.2,h3 (by first | exact trivial | rfl)⟩ h4)
   clear h1 h2 h3 h4
   go_wp2_with fail
   exact HF.out
  | succ m =>
   have HS : Hid (numS (all.drop a,0) = (0,(all.drop a,m + 1))):=Lib.hid (by simp [numS,he])
   unfold NumbEnd at HN
   rw [he] at HN
   have hm1 : (((m + 1 : Nat) : Int) != 0) = true:=by simp; omega
   clear he
   generalize (numT (all.drop a)).1 = n at *
   generalize (numT (all.drop a)).2.1 = r at *
   generalize m + 1 = c' at *
   go_enter Tryz.func64,Tryz.ntmps64
   go_wp2_with fail
   refine HN.out.mono ?_
   rintro e w1 ⟨a',rfl,h1,h2,h3,h4⟩
   have HR:=Lib.hid (code_refused w1 g all a' 0 h1 a c')
   rw [if_pos rfl,if_pos rfl] at HR
   have HG:=Lib.hid h4
   clear h1 h2 h3 h4
   go_wp2_with fail
   refine HR.out.mono ?_
   rintro e w2 ⟨rfl,h5,h6⟩
   have HF:=Lib.hid (HP.out 0 (all.drop a,c') w2 HS.out ⟨all,a,h5,HL.out.1,HL.out.2,rfl⟩ (HG.out.trans h6))
   clear h5 h6
   go_wp2_with fail
   exact HF.out
 ·have HN:=Lib.hid (code_number_no w g all a c hB hc)
  have HS : Hid (numS (all.drop a,c) = (0,(all.drop a,c))):=Lib.hid (by simp [numS,hc])
  have HC:=Lib.hid hc
  have hm1 : ((c : Int) != 0) = true:=by simp; exact hc
  clear hB ha hl hc
  go_enter Tryz.func64,Tryz.ntmps64
  go_wp2_with fail
  refine HN.out.mono ?_
  rintro e w1 ⟨rfl,h1,h4⟩
  have HR:=Lib.hid (code_refused w1 g all a c h1 a c)
  rw [if_neg HC.out,if_neg HC.out] at HR
  have HG:=Lib.hid h4
  clear h1 h4
  go_wp2_with fail
  refine HR.out.mono ?_
  rintro e w2 ⟨rfl,h5,h6⟩
  have HF:=Lib.hid (HP.out 0 (all.drop a,c) w2 HS.out ⟨all,a,h5,HL.out.1,HL.out.2,rfl⟩ (HG.out.trans h6))
  clear h5 h6
  go_wp2_with fail
  exact HF.out
set_option maxHeartbeats 1000000 in
theorem code_REnd (w : World) (g : Nat) (s : List UInt8 × Nat) (h : Rdr w g s) :
  Calls Tryz.prog 65 #[.pointer (some ⟨g,0,none⟩)] w (RdrEnd w g (.int .i64 (endS s : Int)) (s.1,endS s)):=by
 obtain ⟨rest,c⟩:=s
 obtain ⟨all,a,hB,ha,hl,hr⟩:=h
 simp only at hB hr
 subst hr
 have HP : Hid (∀ (c' : Nat) w',endS (all.drop a,c) = c' → RdB w' g all a c' → w.grownBy w' (some g) → RdrEnd w g (.int .i64 (endS (all.drop a,c) : Int)) (all.drop a,endS (all.drop a,c)) (.returned (.int .i64 (c' : Int))) w'):=Lib.hid (fun c' w' e h1 h2=>by rw [e]; exact ⟨rfl,⟨all,a,h1,ha,hl,rfl⟩,h2⟩)
 generalize RdrEnd w g (.int .i64 (endS (all.drop a,c) : Int)) (all.drop a,endS (all.drop a,c)) = P at HP ⊢
 obtain ⟨c0,c1,c2,f1,f2⟩:=hB.cells
 have HB:=Lib.hid hB
 have HLf:=Lib.hid (code_Left w g all a c hB hl ha)
 by_cases hz : all.length - a = 0
 ·have hd : all.drop a = []:=List.drop_of_length_le (by omega)
  have HS : Hid (endS (all.drop a,c) = c):=Lib.hid (by simp [endS,hd])
  rw [hz] at HLf
  clear hB ha hl hd hz
  go_enter Tryz.func65,Tryz.ntmps65
  go_wp2_with fail
  refine HLf.out.mono ?_
  rintro e w1 ⟨rfl,h1,h4⟩
  obtain ⟨d0,d1,d2,_,_⟩:=h1.cells
  have HF:=Lib.hid (HP.out c w1 HS.out h1 h4)
  clear h1 h4
  go_wp2_with fail
  exact HF.out
 ·have hd : all.drop a ≠ []:=fun e=>by have:=congrArg List.length e; rw [List.length_drop] at this; exact hz this
  have HS : Hid (endS (all.drop a,c) = if c = 0 then 3 else c):=Lib.hid (by simp [endS,hd])
  have hzI : (0 : Int) < ((all.length - a : Nat) : Int):=by omega
  clear hB ha hl hd hz
  generalize ((all.length - a : Nat) : Int) = d at *
  go_enter Tryz.func65,Tryz.ntmps65
  go_wp2_with fail
  refine HLf.out.mono ?_
  rintro e w1 ⟨rfl,h1,h4⟩
  obtain ⟨d0,d1,d2,_,_⟩:=h1.cells
  have HR:=Lib.hid (code_refused w1 g all a c h1 a 3)
  have HG:=Lib.hid h4
  clear h1 h4
  go_wp2_with fail
  refine HR.out.mono ?_
  rintro e w2 ⟨rfl,h5,h6⟩
  rw [ite_self] at h5
  obtain ⟨k0,k1,k2,_,_⟩:=h5.cells
  have HF:=Lib.hid (HP.out _ w2 HS.out h5 (HG.out.trans h6))
  clear h5 h6 HS HP HR
  generalize (if c = 0 then 3 else c) = c' at *
  go_wp2_with fail
  exact HF.out
end Go.Proofs.YtomnlhbioijfhaaGreatDoor
