import Derived.Test.YtnelhjfjkkdoaaaGreatDoorJ04
import Derived.BigRegion
set_option linter.unusedSimpArgs false
set_option linter.unusedVariables false
namespace Go.Proofs.YtnelhjfjkkdoaaaGreatDoor
open Go.RowKit Go.Instr
def beB (n : Nat) : List UInt8:=if h : n = 0 then [] else beB (n / 256) ++ [UInt8.ofNat n]
termination_by n
theorem beB_zero : beB 0 = []:=by rw [beB]; simp
theorem beB_pos {n : Nat} (h : 0 < n) : beB n = beB (n / 256) ++ [UInt8.ofNat n]:=by
 rw [beB,dif_neg (by omega)]
def numW (n : Nat) : List UInt8:=UInt8.ofNat (beB n).length :: beB n
theorem rep_set (k : Nat) (x : UInt8) (D : List UInt8) : (List.replicate (k + 1) (0 : UInt8) ++ D).set k x = List.replicate k 0 ++ (x :: D):=by
 rw [List.replicate_succ',List.append_assoc,List.set_append_right _ _ (by simp)]
 simp
set_option maxRecDepth 100000 in
set_option maxHeartbeats 1000000 in
theorem num_loop (n : Nat) (hn : n < 9223372036854775808) (w0 : World) (gb : Nat) (hB : Blk w0 gb 263 (bvals (List.replicate 8 0)).toArray)
  (Q : Exit → Act → World → Prop)
  (hQ : ∀ (s0 s1 s2 s5 s6 s7 s8 s9 s10 s11 s12 s13 s14 s15 s16 s17 s18 s19 s20 s21 s22 s23 : Value) (k : Nat) (w2 : World),k + (beB n).length = 8 → Blk w2 gb 263 (bvals (List.replicate k 0 ++ beB n)).toArray → w0.grownBy w2 (some gb) → w2.heap.size = w0.heap.size → Q (.exit 0) { tmps:=#[s0,s1,s2,.pointer (some ⟨gb,0,none⟩),.int .i64 (k : Int),s5,s6,s7,s8,s9,s10,s11,s12,s13,s14,s15,s16,s17,s18,s19,s20,s21,s22,s23],defers := [] } w2)
  (s1 s2 s5 s6 s7 s8 s9 s10 s11 s12 s13 s14 s15 s16 s17 s18 s19 s20 s21 s22 s23 : Value) :
  Code.wp Tryz.prog (.loop (loopAt Tryz.f156 0)) Q { tmps:=#[.int .i64 (n : Int),s1,s2,.pointer (some ⟨gb,0,none⟩),.int .i64 8,s5,s6,s7,s8,s9,s10,s11,s12,s13,s14,s15,s16,s17,s18,s19,s20,s21,s22,s23],defers := [] } w0:=by
 have HQ:=Lib.hid hQ
 clear hQ
 refine wp_loop_ghost_k (fun k a wr => ∀ Φ : Act → Prop,(∀ (s1 s2 s5 s6 s7 s8 s9 s10 s11 s12 s13 s14 s15 s16 s17 s18 s19 s20 s21 s22 s23 : Value) (m : Nat) (k1' : Nat) (D : List UInt8),(k = k1' ∧ k1' + D.length = 8 ∧ m < 256 ^ k1' ∧ m < 9223372036854775808 ∧ beB n = beB m ++ D ∧ Blk wr gb 263 (bvals (List.replicate k1' 0 ++ D)).toArray ∧ w0.grownBy wr (some gb) ∧ wr.heap.size = w0.heap.size) → Φ { tmps:=#[.int .i64 (m : Int),s1,s2,.pointer (some ⟨gb,0,none⟩),.int .i64 (k1' : Int),s5,s6,s7,s8,s9,s10,s11,s12,s13,s14,s15,s16,s17,s18,s19,s20,s21,s22,s23],defers := [] }) → Φ a) (8) ?_ ?_
 ·refine fun Φ hΦ=>hΦ _ _ _ _ _ _ _ _ _ _ _ _ _ _ _ _ _ _ _ _ _ (n) (8) ([]) ?_
  exact ⟨rfl,rfl,by omega,hn,by simp,by simpa using hB,World.grownBy.refl _ _,rfl⟩
 ·intro k1 a1 wr1 hI1 J1 K1 hJ1 hK1
  refine hI1 (fun a=>Code.wp _ _ _ a _) ?_
  clear hI1 a1
  intro s0 s1 s2 s3 s4 s5 s6 s7 s8 s9 s10 s11 s12 s13 s14 s15 s16 s17 s18 s19 s20 m k2 D hrel
  show Code.wp _ _ _ _ _
  conv=>arg 2; whnf
  obtain ⟨h1,h2,h3,h4,h5,hw,hg,hs⟩:=hrel
  by_cases hm : 0 < m
  ·obtain ⟨k,rfl⟩ : ∃ k,k2 = k + 1:=⟨k2 - 1,by
    rcases k2 with _ | k
    ·simp at h3; omega
    ·rfl⟩
   have hm1 : (0 : Int) < m:=by omega
   have hm2 : (m : Int) ≤ 9223372036854775807:=by omega
   have hk : k < 8:=by omega
   have hk1 : (k : Int) < 8:=by omega
   have c0 : wr1.cell? ⟨gb,k,none⟩ = some (.int .u8 (((List.replicate (k + 1) 0 ++ D).getD k 0).toNat : Int)):=(hw.cell _).trans (bvals_at (by simp; omega))
   have f0 : wr1.frozen? ⟨gb,k,none⟩ = false:=hw.frozen _
   have e8:=u8_wrap_nat m
   have HE:=Lib.hid (beB_pos hm)
   have H:=Lib.hid (And.intro h1 (And.intro h2 (And.intro h3 (And.intro h4 (And.intro h5 (And.intro hw (And.intro hg hs)))))))
   generalize (List.replicate (k + 1) 0 ++ D).getD k 0 = y at *
   clear h1 h2 h3 h4 h5 hw hg hs
   go_wp2
   refine Handed.intro (k) ?_ (hJ1 _ _ _ (fun Φ hΦ=>hΦ _ _ _ _ _ _ _ _ _ _ _ _ _ _ _ _ _ _ _ _ _ (m / 256) (k) (UInt8.ofNat m :: D) ?_))
   ·have:=H.out.1
    show k < k1
    omega
   ·obtain ⟨h1,h2,h3,h4,h5,hw,hg,hs⟩:=H.out
    have hw2:=hw.set_ k (.int .u8 ((UInt8.ofNat m).toNat : Int))
    rw [bvals_set,rep_set] at hw2
    refine ⟨rfl,by rw [List.length_cons]; omega, ?_,by omega, ?_,hw2,grown_set0 hg _ _,by simp [hs]⟩
    ·rw [Nat.pow_succ] at h3
     exact Nat.div_lt_of_lt_mul (by rw [Nat.mul_comm]; exact h3)
    ·rw [h5,HE.out,List.append_assoc]
     rfl
  ·have e : m = 0:=by omega
   subst e
   rw [beB_zero,List.nil_append] at h5
   rw [← h5] at hw h2
   have H:=Lib.hid (And.intro h2 (And.intro hw (And.intro hg hs)))
   clear h1 h2 h3 h4 h5 hw hg hs
   go_wp2
   exact HQ.out _ _ _ _ _ _ _ _ _ _ _ _ _ _ _ _ _ _ _ _ _ _ _ _ H.out.1 H.out.2.1 H.out.2.2.1 H.out.2.2.2
end Go.Proofs.YtnelhjfjkkdoaaaGreatDoor
namespace Go.Proofs.YtnelhjfjkkdoaaaGreatDoor
open Go.RowKit Go.Instr
attribute [local go_sem] ByteArray.mk_append_mk
theorem zeros8 : (bvals (List.replicate 8 0)).toArray = #[.int .u8 0,.int .u8 0,.int .u8 0,.int .u8 0,.int .u8 0,.int .u8 0,.int .u8 0,.int .u8 0]:=rfl
set_option maxRecDepth 100000 in
set_option maxHeartbeats 1000000 in
theorem code_num (n : Nat) (hn : n < 9223372036854775808) (w : World) :
  Calls Tryz.prog 156 #[.int .i64 (n : Int)] w fun e w'=>e = .returned (.string ⟨(numW n).toArray⟩) ∧ Below w.heap.size w w':=by
 have h8:=Lib.hid zeros8
 have HS : Hid (numW n = UInt8.ofNat (beB n).length :: beB n):=Lib.hid rfl
 generalize numW n = S at *
 go_enter Tryz.func156,Tryz.ntmps156
 go_wp2
 rw [← h8.out]
 have F0 : Hid (Blk (w.alloc (.cells (bvals (List.replicate 8 0)).toArray 263)) w.heap.size 263 (bvals (List.replicate 8 0)).toArray ∧ Below w.heap.size w (w.alloc (.cells (bvals (List.replicate 8 0)).toArray 263))):=Lib.hid ⟨Blk.new _ _ _,by go_grown⟩
 generalize w.alloc (.cells (bvals (List.replicate 8 0)).toArray 263) = W0 at F0 ⊢
 refine num_loop n hn W0 w.heap.size F0.out.1 _ ?_ _ _ _ _ _ _ _ _ _ _ _ _ _ _ _ _ _ _ _ _ _
 intro s0 s1 s2 s5 s6 s7 s8 s9 s10 s11 s12 s13 s14 s15 s16 s17 s18 s19 s20 s21 s22 s23 k w2 hk hb2 hg2 hs2
 have B2 : Below w.heap.size w w2:=F0.out.2.grown hg2 F0.out.2.size (by intro j e; injection e with e; omega)
 generalize beB n = D at *
 have hlt:=hb2.lt
 have hk8 : k ≤ 8:=by omega
 have cv1:=conv1 w2.drew ((8 : Int) - k) (by omega) (by omega)
 have cv1':=conv1 w2 ((8 : Int) - k) (by omega) (by omega)
 rw [show UInt8.ofNat ((8 : Int) - k).toNat = UInt8.ofNat D.length by congr 1; omega] at cv1 cv1'
 have ek : (8 : Int) - k = D.length:=by omega
 have cvD : ∀ w' A,(A = some (if 8 = k then (⟨w.heap.size,0,none⟩ : Addr) else ⟨w.heap.size,k,none⟩)) → w'.heap[w.heap.size]? = w2.heap[w.heap.size]? → (convert 118 9 (.slice A (8 - k) (8 - k))).run Tryz.prog w' = .ok (.string ⟨D.toArray⟩) w':=by
  intro w' A hA hw'
  subst hA
  have hb3 : Blk w' w.heap.size 263 (bvals (List.replicate k 0 ++ D)).toArray:=hw'.trans hb2
  refine conv_reads w' w'.heap.size _ (8 - k) (8 - k) D ⟨by rw [bvals_length]; omega,fun h0 => ?_⟩
  rw [if_neg (by omega)]
  refine ⟨_,rfl,hb3.lt,fun j v hv => ?_⟩
  rw [Addr.add_mid,hb3.cell]
  rw [bvals_append]
  have : (bvals (List.replicate k (0 : UInt8))).length = k:=by rw [bvals_length,List.length_replicate]
  simp only [List.getElem?_toArray]
  rw [List.getElem?_append_right (by omega),this,Nat.add_sub_cancel_left]
  exact hv
 have K2:=Lib.hid (And.intro B2 (And.intro hlt cvD))
 clear hb2 hg2 hs2 F0 hlt cvD
 have kk1 : (0 : Int) ≤ 8 - k:=by omega
 have kk2 : (8 : Int) - k < 256:=by omega
 have kk3 : (k : Int) ≤ 8:=by omega
 have E1:=conv1d w2 ((8 : Int) - k) kk1 kk2
 rw [show UInt8.ofNat ((8 : Int) - k).toNat = UInt8.ofNat D.length by congr 1; omega] at E1
 clear cv1 cv1' ek
 by_cases hk88 : k = 8
 ·subst hk88
  have hD : D = []:=List.eq_nil_of_length_eq_zero (by omega)
  subst hD
  have z1 : IntKind.i64.wrap 0 = 0:=rfl
  have z2 : IntKind.u8.wrap 0 = 0:=rfl
  have z3 : (8 : Int) - (8 : Nat) = 0:=rfl
  have E1':=conv1d w2 0 (by omega) (by omega)
  have E2:=K2.out.2.2 w2.drew (some ⟨w.heap.size,0,none⟩) (by simp) rfl
  have E3:=K2.out.2.2 (w2.alloc (.cells #[.int .u8 0] 5)).drew (some ⟨w.heap.size,0,none⟩) (by simp) (Below.heap_alloc _ _ _ K2.out.2.1)
  rw [show (8 - 8 : Nat) = 0 from rfl] at E2 E3
  clear E1
  go_wp2
  go_region
  rw [show (#[0] : Array UInt8) = S.toArray from congrArg List.toArray HS.out.symm]
  go_wp2
  go_ret
  refine ⟨rfl, ?_⟩
  exact (K2.out.1.alloc K2.out.1.size _).drew
 ·have E2:=K2.out.2.2 w2.drew (some ⟨w.heap.size,k,none⟩) (by rw [if_neg (fun e=>hk88 e.symm)]) rfl
  have E3:=K2.out.2.2 (w2.alloc (.cells #[.int .u8 ((8 : Int) - k)] 5)).drew (some ⟨w.heap.size,k,none⟩) (by rw [if_neg (fun e=>hk88 e.symm)]) (Below.heap_alloc _ _ _ K2.out.2.1)
  have kk4 : (k : Int) < 8:=by omega
  have kk5 : k < 8:=by omega
  go_wp2
  go_region
  rw [← HS.out]
  go_wp2
  go_ret
  refine ⟨rfl, ?_⟩
  exact (K2.out.1.alloc K2.out.1.size _).drew
theorem beB_len : ∀ (j n : Nat),n < 256 ^ j → (beB n).length ≤ j
 | 0,n,h=>by
  have : n = 0:=by simpa using h
  subst this
  rw [beB_zero]; simp
 | j + 1,n,h=>by
  rcases Nat.eq_zero_or_pos n with h0 | h0
  ·subst h0; rw [beB_zero]; simp
  ·rw [beB_pos h0,List.length_append,List.length_cons,List.length_nil]
   have:=beB_len j (n / 256) (by rw [Nat.pow_succ] at h; exact Nat.div_lt_of_lt_mul (by rw [Nat.mul_comm]; exact h))
   omega
theorem numW_len (n : Nat) (hn : n < 9223372036854775808) : (numW n).length ≤ 9:=by
 have:=beB_len 8 n (by omega)
 unfold numW
 rw [List.length_cons]
 omega
def textW (s : List UInt8) : List UInt8:=numW s.length ++ s
theorem code_Text (s : List UInt8) (hs : s.length ≤ 9223372036854775000) (w : World) :
  Calls Tryz.prog 124 #[.string ⟨s.toArray⟩] w fun e w'=>e = .returned (.string ⟨(textW s).toArray⟩) ∧ Below w.heap.size w w':=by
 have HP : Hid (∀ w',Below w.heap.size w w' → (fun e w'=>e = Ending.returned (.string ⟨(textW s).toArray⟩) ∧ Below w.heap.size w w') (Ending.returned (.string ⟨(numW s.length ++ s).toArray⟩)) w'):=Lib.hid (fun w' hb=>⟨rfl,hb⟩)
 generalize (fun e w'=>e = Ending.returned (.string ⟨(textW s).toArray⟩) ∧ Below w.heap.size w w') = P at HP ⊢
 go_enter Tryz.func124,Tryz.ntmps124
 go_wp2_with fail
 refine (code_num s.length (by omega) _).mono ?_
 rintro e w1 ⟨rfl,hb⟩
 have hl:=numW_len s.length (by omega)
 generalize numW s.length = N at *
 have hsum : N.length + s.length ≤ 9223372036854775807:=by omega
 go_wp2
 exact HP.out _ hb
theorem code_Num (n : Nat) (hn : n < 9223372036854775808) (w : World) :
  Calls Tryz.prog 123 #[.int .i64 (n : Int)] w fun e w'=>e = .returned (.tuple #[.string ⟨(numW n).toArray⟩,.int .i64 0]) ∧ Below w.heap.size w w':=by
 have HP : Hid (∀ w',Below w.heap.size w w' → (fun e w'=>e = Ending.returned (.tuple #[.string ⟨(numW n).toArray⟩,.int .i64 0]) ∧ Below w.heap.size w w') (Ending.returned (.tuple #[.string ⟨(numW n).toArray⟩,.int .i64 0])) w'):=Lib.hid (fun w' hb=>⟨rfl,hb⟩)
 generalize (fun e w'=>e = Ending.returned (.tuple #[.string ⟨(numW n).toArray⟩,.int .i64 0]) ∧ Below w.heap.size w w') = P at HP ⊢
 have h0 : ((n : Int) < 0) = False:=by simp
 go_enter Tryz.func123,Tryz.ntmps123
 go_wp2_with fail
 refine (code_num n hn _).mono ?_
 rintro e w1 ⟨rfl,hb⟩
 go_wp2
 exact HP.out _ hb
end Go.Proofs.YtnelhjfjkkdoaaaGreatDoor
namespace Go.Proofs.YtnelhjfjkkdoaaaGreatDoor
namespace Pw
abbrev Mem:=List UInt8 × Int
def risM : List UInt8 → List Mem → Bool
 | _, []=>true
 | last,m :: r=>decide (m.1.length ≤ 6) && Op.bytesLess last m.1 && decide (1 ≤ m.2) && decide (m.2 ≤ 1000) && risM m.1 r
def okM (l : List Mem) : Bool:=decide (1 ≤ l.length) && decide (l.length ≤ 7) && risM [] l
def memB (m : Mem) : List UInt8:=textW m.1 ++ numW m.2.toNat
def encM (l : List Mem) : List UInt8:=numW l.length ++ (l.map memB).flatten
def digM (l : List Mem) : List UInt8:=if okM l then shaW (4 :: encM l) else []
theorem risM_all : ∀ (l : List Mem) (last : List UInt8),risM last l = true → ∀ m ∈ l,m.1.length ≤ 6 ∧ m.1 ≠ [] ∧ 1 ≤ m.2 ∧ m.2 ≤ 1000
 | [],_,_=>by simp
 | m :: r,last,h=>by
  simp only [risM,Bool.and_eq_true,decide_eq_true_eq] at h
  intro x hx
  rcases List.mem_cons.1 hx with rfl | hx
  ·refine ⟨h.1.1.1.1, ?_,h.1.1.2,h.1.2⟩
   intro e
   have:=h.1.1.1.2
   rw [e] at this
   cases last <;> simp [Op.bytesLess] at this
  ·exact risM_all r m.1 h.2 x hx
theorem okM_len {l : List Mem} (h : okM l = true) : 1 ≤ l.length ∧ l.length ≤ 7:=by
 simp only [okM,Bool.and_eq_true,decide_eq_true_eq] at h
 exact h.1
theorem okM_all {l : List Mem} (h : okM l = true) : ∀ m ∈ l,m.1.length ≤ 6 ∧ m.1 ≠ [] ∧ 1 ≤ m.2 ∧ m.2 ≤ 1000:=by
 simp only [okM,Bool.and_eq_true,decide_eq_true_eq] at h
 exact risM_all l [] h.2
theorem memB_len {m : Mem} (h : m.1.length ≤ 6) (h1 : 1 ≤ m.2) (h2 : m.2 ≤ 1000) : (memB m).length ≤ 24:=by
 unfold memB textW
 have a:=numW_len m.1.length (by omega)
 have b:=numW_len m.2.toNat (by omega)
 simp only [List.length_append]
 omega
theorem flat_len : ∀ (l : List Mem),(∀ m ∈ l,(memB m).length ≤ 24) → (l.map memB).flatten.length ≤ 24 * l.length
 | [],_=>by simp
 | m :: r,h=>by
  have h1:=h m (List.mem_cons_self ..)
  have h2:=flat_len r (fun x hx=>h x (List.mem_cons_of_mem _ hx))
  simp only [List.map_cons,List.flatten_cons,List.length_append,List.length_cons]
  omega
theorem encM_len {l : List Mem} (h : okM l = true) : (encM l).length ≤ 200:=by
 unfold encM
 have hl:=okM_len h
 have a:=numW_len l.length (by omega)
 have b:=flat_len l (fun m hm=>by
  obtain ⟨h1,_,h3,h4⟩:=okM_all h m hm
  exact memB_len h1 h3 h4)
 rw [List.length_append]
 omega
theorem digM_len {l : List Mem} (h : okM l = true) : (digM l).length = 32:=by
 unfold digM
 rw [if_pos h,shaW_length]
end Pw
theorem snoc_ind {P : List UInt8 → Prop} (h0 : P []) (h1 : ∀ c x,P c → P (c ++ [x])) (l : List UInt8) : P l:=by
 have : ∀ m : List UInt8,P m.reverse:=by
  intro m
  induction m with
  | nil=>exact h0
  | cons x m ih=>rw [List.reverse_cons]; exact h1 _ _ ih
 have h:=this l.reverse
 rwa [List.reverse_reverse] at h
theorem snoc_cases (l : List UInt8) : l = [] ∨ ∃ c x,l = c ++ [x]:=by
 induction l using snoc_ind with
 | h0=>exact .inl rfl
 | h1 c x _=>exact .inr ⟨c,x,rfl⟩
def valBE (b : List UInt8) : Nat:=b.foldl (fun n x=>n * 256 + x.toNat) 0
theorem valBE_snoc (b : List UInt8) (x : UInt8) : valBE (b ++ [x]) = valBE b * 256 + x.toNat:=by simp [valBE]
theorem valBE_lt (b : List UInt8) : valBE b < 256 ^ b.length:=by
 induction b using snoc_ind with
 | h0=>simp [valBE]
 | h1 c x this =>
  have hx:=x.toNat_lt
  rw [valBE_snoc,List.length_append,List.length_singleton,Nat.pow_succ]
  omega
theorem valBE_beB (n : Nat) : valBE (beB n) = n:=by
 rcases Nat.eq_zero_or_pos n with h | h
 ·subst h; rw [beB_zero]; rfl
 ·rw [beB_pos h,valBE_snoc,valBE_beB (n / 256)]
  simp
  omega
termination_by n
decreasing_by omega
theorem beB_head (n : Nat) : ∀ x r,beB n = x :: r → x ≠ 0:=by
 intro x r e
 rcases Nat.eq_zero_or_pos n with h | h
 ·subst h; rw [beB_zero] at e; cases e
 ·rw [beB_pos h] at e
  cases hb : beB (n / 256) with
  | nil =>
   rw [hb] at e
   simp at e
   have hz : n / 256 = 0:=by have:=valBE_beB (n / 256); rw [hb] at this; simp [valBE] at this; omega
   intro e0
   rw [← e.1] at e0
   have:=congrArg UInt8.toNat e0
   simp at this
   omega
  | cons y t =>
   rw [hb] at e
   simp at e
   rw [← e.1]
   exact beB_head (n / 256) y t hb
termination_by n
decreasing_by omega
def numT : List UInt8 → Nat × List UInt8 × Nat
 | []=>(0, [],20)
 | k :: r=>if 8 < k.toNat then (0, [],3) else if r.length < k.toNat then (0, [],20)
  else if (0 < k.toNat ∧ r.getD 0 0 = 0) ∨ (k.toNat = 8 ∧ 128 ≤ (r.getD 0 0).toNat) then (0, [],3)
  else (valBE (r.take k.toNat),r.drop k.toNat,0)
theorem numT_cons (k : UInt8) (r : List UInt8) : numT (k :: r) = if 8 < k.toNat then (0, [],3) else if r.length < k.toNat then (0, [],20)
  else if (0 < k.toNat ∧ r.getD 0 0 = 0) ∨ (k.toNat = 8 ∧ 128 ≤ (r.getD 0 0).toNat) then (0, [],3)
  else (valBE (r.take k.toNat),r.drop k.toNat,0):=rfl
theorem valBE_cons_lt (x : UInt8) (b : List UInt8) (hx : x.toNat < 128) (hb : b.length ≤ 7) : valBE (x :: b) < 9223372036854775808:=by
 have key : ∀ (b : List UInt8),valBE (x :: b) < (x.toNat + 1) * 256 ^ b.length:=by
  intro b
  induction h : b.length generalizing b with
  | zero =>
   have : b = []:=List.eq_nil_of_length_eq_zero h
   subst this
   simp [valBE]
  | succ n ih =>
   rcases snoc_cases b with rfl | ⟨c,y,rfl⟩
   ·simp at h
   ·have hc : c.length = n:=by simp at h; exact h
    have:=ih c hc
    have hy:=y.toNat_lt
    rw [show x :: (c ++ [y]) = (x :: c) ++ [y] from rfl,valBE_snoc,Nat.pow_succ,← Nat.mul_assoc]
    omega
 have h1:=key b
 have h2 : (256 : Nat) ^ b.length ≤ 256 ^ 7:=Nat.pow_le_pow_right (by omega) hb
 have h3 : (x.toNat + 1) * 256 ^ b.length ≤ 128 * 256 ^ 7:=Nat.mul_le_mul (by omega) h2
 have h4 : (128 : Nat) * 256 ^ 7 = 9223372036854775808:=by decide
 omega
theorem numT_lt {s r : List UInt8} {n : Nat} (h : numT s = (n,r,0)) : n < 9223372036854775808:=by
 cases s with
 | nil=>simp [numT] at h
 | cons k t =>
  rw [numT_cons] at h
  split at h
  ·simp at h
  split at h
  ·simp at h
  split at h
  ·simp at h
  rename_i h1 h2 h3
  simp only [Prod.mk.injEq] at h
  rw [← h.1]
  have hl : (t.take k.toNat).length = k.toNat:=by rw [List.length_take]; omega
  by_cases h8 : k.toNat = 8
  ·cases t with
   | nil=>simp at h2; omega
   | cons x u =>
    rw [h8,show (x :: u).take 8 = x :: u.take 7 from rfl]
    refine valBE_cons_lt x _ ?_ (by rw [List.length_take]; omega)
    simp at h3
    exact h3.2 h8
  ·have h4:=valBE_lt (t.take k.toNat)
   rw [hl] at h4
   have : (256 : Nat) ^ k.toNat ≤ 256 ^ 7:=Nat.pow_le_pow_right (by omega) (by omega)
   have h5 : (256 : Nat) ^ 7 = 72057594037927936:=by decide
   omega
theorem numT_of (n : Nat) (hn : n < 9223372036854775808) (r : List UInt8) : numT (numW n ++ r) = (n,r,0):=by
 have hl:=beB_len 8 n (by omega)
 have hk : (UInt8.ofNat (beB n).length).toNat = (beB n).length:=by simp; omega
 rw [show numW n ++ r = UInt8.ofNat (beB n).length :: (beB n ++ r) from rfl]
 rw [numT_cons,hk,if_neg (by omega),if_neg (by simp)]
 have hh : ¬ ((0 < (beB n).length ∧ (beB n ++ r).getD 0 0 = 0) ∨ ((beB n).length = 8 ∧ 128 ≤ ((beB n ++ r).getD 0 0).toNat)):=by
  cases hb : beB n with
  | nil=>simp
  | cons x t =>
   have hx:=beB_head n x t hb
   simp only [List.cons_append,List.getD_cons_zero]
   rintro (⟨_,h⟩ | ⟨h8,h⟩)
   ·exact hx h
   ·have hv:=valBE_beB n
    rw [hb] at hv
    have hlow : ∀ c : List UInt8,x.toNat * 256 ^ c.length ≤ valBE (x :: c):=by
     intro c
     induction hc : c.length generalizing c with
     | zero =>
      have : c = []:=List.eq_nil_of_length_eq_zero hc
      subst this
      simp [valBE]
     | succ m ih =>
      rcases snoc_cases c with rfl | ⟨d,y,rfl⟩
      ·simp at hc
      ·have hd : d.length = m:=by simp at hc; exact hc
       have:=ih d hd
       rw [show x :: (d ++ [y]) = (x :: d) ++ [y] from rfl,valBE_snoc,Nat.pow_succ,← Nat.mul_assoc]
       omega
    have h7 : t.length = 7:=by simp at h8; exact h8
    have h1:=hlow t
    rw [hv,h7] at h1
    have h2 : 128 * 256 ^ 7 ≤ x.toNat * 256 ^ 7:=Nat.mul_le_mul_right _ h
    have h4 : (128 : Nat) * 256 ^ 7 = 9223372036854775808:=by decide
    omega
 rw [if_neg hh]
 simp [valBE_beB]
end Go.Proofs.YtnelhjfjkkdoaaaGreatDoor
