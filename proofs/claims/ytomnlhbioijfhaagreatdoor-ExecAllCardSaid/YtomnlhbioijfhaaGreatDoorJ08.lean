import Derived.Test.YtomnlhbioijfhaaGreatDoorJ07
import Derived.DeepKeys
set_option linter.unusedSimpArgs false
set_option linter.unusedVariables false
namespace Go.Proofs.YtomnlhbioijfhaaGreatDoor
open Go.RowKit Go.Instr
def noKidsV : Array Value:=#[.string ⟨#[]⟩,.string ⟨#[]⟩,.string ⟨#[]⟩,.string ⟨#[]⟩,.string ⟨#[]⟩,.string ⟨#[]⟩,.string ⟨#[]⟩,.string ⟨#[]⟩,.string ⟨#[]⟩,.string ⟨#[]⟩,.string ⟨#[]⟩,.string ⟨#[]⟩,.string ⟨#[]⟩,.string ⟨#[]⟩,.string ⟨#[]⟩,.string ⟨#[]⟩]
theorem noKidsV_eq : (strv (List.replicate 16 [])).toArray = noKidsV:=rfl
theorem mapM_some' {α β : Type} {f : α → Option β} {g : α → β} : ∀ l : List α,(∀ x ∈ l,f x = some (g x)) → l.mapM f = some (l.map g)
 | [],_=>rfl
 | a :: l,h=>by
  rw [List.mapM_cons,h a (by simp),mapM_some' l (fun x hx=>h x (by simp [hx]))]
  rfl
theorem keyLits_one (s : List UInt8) (h : s.length ≤ 9223372036854775807) : Program.keyLits Tryz.prog 39 9 [.string ⟨s.toArray⟩] = some [.string s]:=by
 have hm : (⟨s.toArray⟩ : ByteArray).size ≤ maxLen:=by show s.toArray.size ≤ maxLen; simp [maxLen]; omega
 unfold Program.keyLits
 rw [Tryz.underlying9]
 simp [hm]
theorem flat_single {α β : Type} (f : α → β) (l : List α) : (l.map fun a => [f a]).flatten = l.map f:=by
 induction l with
 | nil=>rfl
 | cons a l ih=>simp [ih]
theorem range_getD (K : List (List UInt8)) : (List.range K.length).map (fun i=>K.getD i []) = K:=by
 apply List.ext_getElem
 ·simp
 ·intro i h1 h2
  simp at h1
  simp [List.getD_eq_getElem?_getD,h1]
theorem keyLits_arr (K : List (List UInt8)) (hK : K.length = 16) (h : ∀ s ∈ K,s.length ≤ 9223372036854775807) : Program.keyLits Tryz.prog 40 115 (strv K) = some (K.map .string):=by
 have c9 : Tryz.prog.cellsOf 9 = 1:=by kernel_rfl
 have c85 : Tryz.prog.cellsOf 115 = 16:=by kernel_rfl
 have hs : (strv K).length = 16:=by rw [strv_length,hK]
 unfold Program.keyLits
 rw [Tryz.underlying115]
 simp only [c9,c85,hs,if_true]
 rw [mapM_some' (g:=fun i => [Lit.string (K.getD i [])])]
 ·rw [Option.map_some,flat_single]
  have:=range_getD K
  rw [hK] at this
  conv=>rhs; rw [← this]
  rw [List.map_map]
  rfl
 ·intro i hi
  have hi' : i < K.length:=by rw [hK]; simpa using hi
  have e : ((strv K).drop (i * 1)).take 1 = [.string ⟨(K.getD i []).toArray⟩]:=by
   rw [Nat.mul_one,List.drop_eq_getElem_cons (by rw [strv_length]; exact hi')]
   simp [strv,List.getD_eq_getElem?_getD,hi']
  rw [e]
  refine keyLits_one _ ?_
  rw [List.getD_eq_getElem?_getD,List.getElem?_eq_getElem hi']
  exact h _ (List.getElem_mem hi')
theorem lit_string_inj {K L : List (List UInt8)} : K.map Lit.string = L.map Lit.string ↔ K = L:=by
 constructor
 ·intro h
  exact List.map_inj_right (f:=Lit.string) (fun a b e=>by injection e) |>.1 h
 ·rintro rfl; rfl
set_option maxRecDepth 100000 in
theorem kids_eql (K L : List (List UInt8)) (hK : K.length = 16) (hL : L.length = 16) (h1 : ∀ s ∈ K,s.length ≤ 9223372036854775807) (h2 : ∀ s ∈ L,s.length ≤ 9223372036854775807) (w : World) :
  (Op.equalIn 10000 115 (.agg (strv K).toArray) (.agg (strv L).toArray)).run Tryz.prog w = .ok (decide (K = L)) w:=by
 have f1 : (Value.agg (strv K).toArray).cells.toList = strv K:=by simp [Value.cells]
 have f2 : (Value.agg (strv L).toArray).cells.toList = strv L:=by simp [Value.cells]
 have hf : ∀ M : List (List UInt8),M.length = 16 → (Value.agg (strv M).toArray).formed Tryz.prog 115 = true:=by
  intro M hM
  have c85 : Tryz.prog.cellsOf 115 = 16:=by kernel_rfl
  unfold Value.formed
  rw [Tryz.underlying115]
  simp [c85,strv_length,hM]
 have q:=run_equalIn_deep (P:=Tryz.prog) 9990 10 115 (by kernel_rfl)
 have q2:=q w 40 40 (.agg (strv K).toArray) (.agg (strv L).toArray) (K.map .string) (L.map .string)
 obtain ⟨r,g1,g2⟩:=q2 (hf K hK) (hf L hL) (by rw [f1]; exact keyLits_arr K hK h1) (by rw [f2]; exact keyLits_arr L hL h2)
 rw [lit_string_inj] at g2
 have hr : r = decide (K = L):=by
  rw [Bool.eq_iff_iff,g2]; simp
 rw [← hr]
 exact g1
end Go.Proofs.YtomnlhbioijfhaaGreatDoor
namespace Go.Proofs.YtomnlhbioijfhaaGreatDoor
open Go.RowKit Go.Instr
attribute [local go_sem] ba_get ByteArray.mk_append_mk
def fineN (k : Nat) (p v : List UInt8) (K : List (List UInt8)) : Bool :=
 if k = 1 then decide (K = List.replicate 16 []) && pathOk p 0 && !v.isEmpty && decide (v.length ≤ 32)
 else if k = 2 then decide (K = K.getD 0 [] :: List.replicate 15 []) && sumsOk [K.getD 0 []] && pathOk p 1 && v.isEmpty
 else if k = 3 then p.isEmpty && sumsOk (kidsW K) && decide (2 ≤ (kidsW K).length + (if v.isEmpty then 0 else 1)) && decide (v.length ≤ 32)
 else false
def nodeV (k : Nat) (p v : List UInt8) (K : List (List UInt8)) : List Value:=.int .i64 (k : Int) :: .string ⟨p.toArray⟩ :: .string ⟨v.toArray⟩ :: strv K
def CheckEnd (w : World) (b : Bool) (e : Ending) (w' : World) : Prop:=e = .returned (.int .i64 (if b then 0 else 80)) ∧ Below w.heap.size w w'
theorem info_node : (Tryz.prog.info? 117).map (·.size) = some 19:=by kernel_rfl
theorem nodeV_size {k : Nat} {p v : List UInt8} {K : List (List UInt8)} (hK : K.length = 16) : (nodeV k p v K).length = 19:=by simp [nodeV,strv_length,hK]
theorem oneKid_eq (s : List UInt8) : (strv (s :: List.replicate 15 [])).toArray = #[.string ⟨s.toArray⟩,.string ⟨#[]⟩,.string ⟨#[]⟩,.string ⟨#[]⟩,.string ⟨#[]⟩,.string ⟨#[]⟩,.string ⟨#[]⟩,.string ⟨#[]⟩,.string ⟨#[]⟩,.string ⟨#[]⟩,.string ⟨#[]⟩,.string ⟨#[]⟩,.string ⟨#[]⟩,.string ⟨#[]⟩,.string ⟨#[]⟩,.string ⟨#[]⟩]:=rfl
structure NodeAt (w : World) (B : Nat) (k : Nat) (p v : List UInt8) (K : List (List UInt8)) : Prop where
 c0 : w.cell? ⟨B,0,none⟩ = some (.int .i64 (k : Int))
 c1 : w.cell? ⟨B,1,none⟩ = some (.string ⟨p.toArray⟩)
 c2 : w.cell? ⟨B,2,none⟩ = some (.string ⟨v.toArray⟩)
 rng : w.rangeAt B 3 (strv K)
 all : w.rangeAt B 0 (nodeV k p v K)
theorem NodeAt.of {w : World} {B k : Nat} {p v : List UInt8} {K : List (List UInt8)} {C : List Value} {t : TypeId} (h : Blk w B t (nodeV k p v K ++ C).toArray) : NodeAt w B k p v K:=by
 have hc:=fun i=>h.cell i
 have hr : w.rangeAt B 0 (nodeV k p v K):=fun j u hu=>by
  rw [hc,Nat.zero_add]
  simp only [List.getElem?_toArray]
  rw [List.getElem?_append_left (by
   rcases Nat.lt_or_ge j (nodeV k p v K).length with hl | hl
   ·exact hl
   ·rw [List.getElem?_eq_none hl] at hu; cases hu)]
  exact hu
 exact ⟨hr 0 _ rfl,hr 1 _ rfl,hr 2 _ rfl,fun j u hu=>by
  have:=hr (j + 3) u (by simpa [nodeV] using hu)
  rwa [show 0 + (j + 3) = 3 + j by omega] at this,hr⟩
set_option maxRecDepth 100000 in
theorem check_leaf (p v : List UInt8) (hp : p.length ≤ 1048576) (hv : v.length ≤ 9223372036854775000) (K : List (List UInt8)) (hK : K.length = 16) (hKs : ∀ s ∈ K,s.length ≤ 9223372036854775807) (w : World) :
  Calls Tryz.prog 115 #[.agg (nodeV 1 p v K).toArray] w (CheckEnd w (fineN 1 p v K)):=by
 have HP : Hid (∀ b w',fineN 1 p v K = b → Below w.heap.size w w' → CheckEnd w (fineN 1 p v K) (.returned (.int .i64 (if b then 0 else 80))) w'):=Lib.hid (fun b w' h1 h2=>⟨by rw [h1],h2⟩)
 have HC:=node_Kids (nk:=.int .i64 1) (np:=.string ⟨p.toArray⟩) (nv:=.string ⟨v.toArray⟩) (h1:=rfl) (h2:=rfl) (h3:=rfl) (K:=K) (hK:=hK)
 have HPath:=fun w=>node_path p 0 (by omega) hp w
 have EQ:=fun w=>kids_eql K (List.replicate 16 []) hK rfl hKs (by simp) w
 rw [noKidsV_eq] at EQ
 unfold noKidsV at EQ
 have HSz:=Lib.hid (nodeV_size (k:=1) (p:=p) (v:=v) hK)
 have HSk:=Lib.hid (strv_length K)
 have HF : Hid (fineN 1 p v K = (decide (K = List.replicate 16 []) && pathOk p 0 && !v.isEmpty && decide (v.length ≤ 32))):=Lib.hid (by simp [fineN])
 generalize CheckEnd w (fineN 1 p v K) = P at HP ⊢
 generalize fineN 1 p v K = fb at *
 generalize pathOk p 0 = b1 at *
 generalize decide (K = List.replicate 16 []) = b0 at *
 go_enter Tryz.func115,Tryz.ntmps115
 go_upto_region 1 with fail
 have SZ : (Tryz.prog.info? 117).map (·.size) = some (nodeV 1 p v K).length:=by rw [HSz.out]; exact info_node
 have SZ2 : (Tryz.prog.info? 115).map (·.size) = some (strv K).length:=by rw [HSk.out,hK]; exact size_arr
 have F0 : Hid (Blk (w.alloc (.cells (nodeV 1 p v K).toArray 117)) w.heap.size 117 (nodeV 1 p v K).toArray ∧ Below w.heap.size w (w.alloc (.cells (nodeV 1 p v K).toArray 117))):=Lib.hid ⟨Blk.new _ _ _,by go_grown⟩
 generalize w.alloc (.cells (nodeV 1 p v K).toArray 117) = W0 at F0 ⊢
 have HB:=Lib.hid (show w.heap.size < W0.heap.size from F0.out.1.lt)
 obtain ⟨_,_,_,_,RA⟩:=NodeAt.of (C := []) (by rw [List.append_nil]; exact F0.out.1)
 generalize hB : w.heap.size = B at *
 clear hB
 go_upto_region 2 with (first | (refine wpList_load_mid rfl 117 _ rfl B 0 rfl _ _ RA Tryz.underlying117 rfl SZ ?_) | (go_at_call 142; refine (HC _).mono ?_; rintro e w1 ⟨A,c,n,rfl,hn,own,hb⟩; have OWN:=Lib.hid (And.intro hn own); clear hn own))
 have F1:=Lib.hid (show Below B w w1 from by have:=F0.out.2.trans (hb.mono (Nat.le_of_lt HB.out)); exact this)
 obtain ⟨_,q1,q2,RK,_⟩:=NodeAt.of (C := []) (by rw [List.append_nil]; exact F0.out.1.below hb HB.out)
 have HB1 : B < w1.heap.size:=Nat.lt_of_lt_of_le HB.out hb.size
 clear hb F0 RA SZ
 have T : Hid (∀ b w',fb = b → Below B w w' → P (Ending.returned (.int .i64 (if b then 0 else 80))) w'):=HP
 clear HP
 cases b0 with
 | false =>
  go_wp2_with (refine wpList_load_mid rfl 115 _ rfl B 3 rfl _ _ RK Tryz.underlying115 rfl SZ2 ?_)
  exact T.out false _ (by rw [HF.out]; try rfl) F1.out
 | true =>
  cases b1 with
  | false =>
   go_wp2_with (first | (refine wpList_load_mid rfl 115 _ rfl B 3 rfl _ _ RK Tryz.underlying115 rfl SZ2 ?_) | (go_at_call 143; refine (HPath _).mono ?_; rintro e w2 ⟨rfl,rfl⟩))
   exact T.out false _ (by rw [HF.out]; try rfl) F1.out
  | true =>
   by_cases hv0 : v = []
   ·subst hv0
    go_wp2_with (first | (refine wpList_load_mid rfl 115 _ rfl B 3 rfl _ _ RK Tryz.underlying115 rfl SZ2 ?_) | (go_at_call 143; refine (HPath _).mono ?_; rintro e w2 ⟨rfl,rfl⟩))
    exact T.out false _ (by rw [HF.out]; try rfl) F1.out
   ·have ne1 : (v.toArray = #[]) = False:=by simp [hv0]
    have HE : v.isEmpty = false:=by simp [hv0]
    by_cases h32 : v.length ≤ 32
    ·have h32' : (v.length : Int) ≤ 32:=by omega
     go_wp2_with (first | (refine wpList_load_mid rfl 115 _ rfl B 3 rfl _ _ RK Tryz.underlying115 rfl SZ2 ?_) | (go_at_call 143; refine (HPath _).mono ?_; rintro e w2 ⟨rfl,rfl⟩))
     exact T.out true _ (by rw [HF.out,HE]; simp [h32]) F1.out
    ·have h32' : ((v.length : Int) ≤ 32) = False:=by simp; omega
     go_wp2_with (first | (refine wpList_load_mid rfl 115 _ rfl B 3 rfl _ _ RK Tryz.underlying115 rfl SZ2 ?_) | (go_at_call 143; refine (HPath _).mono ?_; rintro e w2 ⟨rfl,rfl⟩))
     exact T.out false _ (by rw [HF.out,HE]; simp [h32]) F1.out
set_option maxRecDepth 100000 in
theorem check_ext (p v : List UInt8) (hp : p.length ≤ 1048576) (hv : v.length ≤ 9223372036854775000) (K : List (List UInt8)) (hK : K.length = 16) (hKs : ∀ s ∈ K,s.length ≤ 9223372036854775807) (w : World) :
  Calls Tryz.prog 115 #[.agg (nodeV 2 p v K).toArray] w (CheckEnd w (fineN 2 p v K)):=by
 have HP : Hid (∀ b w',fineN 2 p v K = b → Below w.heap.size w w' → CheckEnd w (fineN 2 p v K) (.returned (.int .i64 (if b then 0 else 80))) w'):=Lib.hid (fun b w' h1 h2=>⟨by rw [h1],h2⟩)
 have HC:=node_Kids (nk:=.int .i64 2) (np:=.string ⟨p.toArray⟩) (nv:=.string ⟨v.toArray⟩) (h1:=rfl) (h2:=rfl) (h3:=rfl) (K:=K) (hK:=hK)
 have HSz:=Lib.hid (nodeV_size (k:=2) (p:=p) (v:=v) hK)
 have HSk:=Lib.hid (strv_length K)
 have HPath:=fun w=>node_path p 1 (by omega) hp w
 have EQ:=fun w=>kids_eql K (K.getD 0 [] :: List.replicate 15 []) hK rfl hKs (by
  intro s hs
  rcases List.mem_cons.1 hs with rfl | hs
  ·rcases K with _ | ⟨a,K⟩
   ·simp at hK
   ·exact hKs _ (by simp)
  ·rw [List.eq_of_mem_replicate hs]; simp) w
 rw [oneKid_eq] at EQ
 have HK0:=Lib.hid (strv_at (l:=K) (i:=0) (by omega))
 have HK1:=Lib.hid (show K[0]'(by omega) = K.getD 0 [] by rw [List.getD_eq_getElem?_getD,List.getElem?_eq_getElem (show 0 < K.length by omega)]; rfl)
 have HSums:=node_sums [K.getD 0 []] (by simp)
 have HF : Hid (fineN 2 p v K = (decide (K = K.getD 0 [] :: List.replicate 15 []) && sumsOk [K.getD 0 []] && pathOk p 1 && v.isEmpty)):=Lib.hid (by simp [fineN])
 generalize CheckEnd w (fineN 2 p v K) = P at HP ⊢
 generalize fineN 2 p v K = fb at *
 generalize pathOk p 1 = b1 at *
 generalize sumsOk [K.getD 0 []] = b2 at *
 generalize decide (K = K.getD 0 [] :: List.replicate 15 []) = b0 at *
 go_enter Tryz.func115,Tryz.ntmps115
 go_upto_region 1 with fail
 have SZ : (Tryz.prog.info? 117).map (·.size) = some (nodeV 2 p v K).length:=by rw [HSz.out]; exact info_node
 have SZ2 : (Tryz.prog.info? 115).map (·.size) = some (strv K).length:=by rw [HSk.out,hK]; exact size_arr
 have F0 : Hid (Blk (w.alloc (.cells (nodeV 2 p v K).toArray 117)) w.heap.size 117 (nodeV 2 p v K).toArray ∧ Below w.heap.size w (w.alloc (.cells (nodeV 2 p v K).toArray 117))):=Lib.hid ⟨Blk.new _ _ _,by go_grown⟩
 generalize w.alloc (.cells (nodeV 2 p v K).toArray 117) = W0 at F0 ⊢
 have HB:=Lib.hid (show w.heap.size < W0.heap.size from F0.out.1.lt)
 obtain ⟨_,_,_,_,RA⟩:=NodeAt.of (C := []) (by rw [List.append_nil]; exact F0.out.1)
 generalize hB : w.heap.size = B at *
 clear hB
 go_upto_region 2 with (first | (refine wpList_load_mid rfl 117 _ rfl B 0 rfl _ _ RA Tryz.underlying117 rfl SZ ?_) | (go_at_call 142; refine (HC _).mono ?_; rintro e w1 ⟨A,c,n,rfl,hn,own,hb⟩; have OWN:=Lib.hid (And.intro hn own); clear hn own))
 have F1:=Lib.hid (show Below B w w1 from by have:=F0.out.2.trans (hb.mono (Nat.le_of_lt HB.out)); exact this)
 obtain ⟨_,q1,q2,RK,_⟩:=NodeAt.of (C := []) (by rw [List.append_nil]; exact F0.out.1.below hb HB.out)
 have HB1 : B < w1.heap.size:=Nat.lt_of_lt_of_le HB.out hb.size
 clear hb F0 RA SZ
 have T : Hid (∀ b w',fb = b → Below B w w' → P (Ending.returned (.int .i64 (if b then 0 else 80))) w'):=HP
 clear HP
 have q3 : w1.cell? ⟨B,3,none⟩ = some (.string ⟨(K.getD 0 []).toArray⟩):=by
  have:=RK 0 _ HK0.out
  rwa [HK1.out] at this
 have HS1:=HSums w1 (some ⟨B,3,none⟩) 16 ⟨by simp [strv],fun _=>⟨_,rfl,HB1,fun j u hu=>by
  rcases j with _ | j
  ·rw [Addr.add_mid]; simp [strv] at hu; rw [← hu]; exact q3
  ·simp [strv] at hu⟩⟩
 clear HSums HK0 HK1
 generalize K.getD 0 [] = s0 at *
 replace HS1 : Calls Tryz.prog 144 #[.slice (some ⟨B,3,none⟩) 1 16] w1 fun e w'=>e = .returned (.bool b2) ∧ w1 = w':=HS1
 cases b0 with
 | false =>
  go_wp2_with (refine wpList_load_mid rfl 115 _ rfl B 3 rfl _ _ RK Tryz.underlying115 rfl SZ2 ?_)
  exact T.out false _ (by rw [HF.out]; try rfl) F1.out
 | true =>
  cases b2 with
  | false =>
   go_wp2_with (first | (refine wpList_load_mid rfl 115 _ rfl B 3 rfl _ _ RK Tryz.underlying115 rfl SZ2 ?_) | (go_at_call 144; refine HS1.mono ?_; rintro e w2 ⟨rfl,rfl⟩))
   exact T.out false _ (by rw [HF.out]; try rfl) F1.out
  | true =>
   cases b1 with
   | false =>
    go_wp2_with (first | (refine wpList_load_mid rfl 115 _ rfl B 3 rfl _ _ RK Tryz.underlying115 rfl SZ2 ?_) | (go_at_call 144; refine HS1.mono ?_; rintro e w2 ⟨rfl,rfl⟩) | (go_at_call 143; refine (HPath _).mono ?_; rintro e w2 ⟨rfl,rfl⟩))
    exact T.out false _ (by rw [HF.out]; try rfl) F1.out
   | true =>
    by_cases hv0 : v = []
    ·subst hv0
     go_wp2_with (first | (refine wpList_load_mid rfl 115 _ rfl B 3 rfl _ _ RK Tryz.underlying115 rfl SZ2 ?_) | (go_at_call 144; refine HS1.mono ?_; rintro e w2 ⟨rfl,rfl⟩) | (go_at_call 143; refine (HPath _).mono ?_; rintro e w2 ⟨rfl,rfl⟩))
     exact T.out true _ (by rw [HF.out]; try rfl) F1.out
    ·have ne1 : (v.toArray = #[]) = False:=by simp [hv0]
     have HE : v.isEmpty = false:=by simp [hv0]
     go_wp2_with (first | (refine wpList_load_mid rfl 115 _ rfl B 3 rfl _ _ RK Tryz.underlying115 rfl SZ2 ?_) | (go_at_call 144; refine HS1.mono ?_; rintro e w2 ⟨rfl,rfl⟩) | (go_at_call 143; refine (HPath _).mono ?_; rintro e w2 ⟨rfl,rfl⟩))
     exact T.out false _ (by rw [HF.out,HE]; try rfl) F1.out
set_option maxRecDepth 100000 in
set_option maxHeartbeats 4000000 in
theorem check_branch (p v : List UInt8) (hp : p.length ≤ 1048576) (hv : v.length ≤ 9223372036854775000) (K : List (List UInt8)) (hK : K.length = 16) (hKs : ∀ s ∈ K,s.length ≤ 9223372036854775807) (w : World) :
  Calls Tryz.prog 115 #[.agg (nodeV 3 p v K).toArray] w (CheckEnd w (fineN 3 p v K)):=by
 have HP : Hid (∀ b w',fineN 3 p v K = b → Below w.heap.size w w' → CheckEnd w (fineN 3 p v K) (.returned (.int .i64 (if b then 0 else 80))) w'):=Lib.hid (fun b w' h1 h2=>⟨by rw [h1],h2⟩)
 have HC:=node_Kids (nk:=.int .i64 3) (np:=.string ⟨p.toArray⟩) (nv:=.string ⟨v.toArray⟩) (h1:=rfl) (h2:=rfl) (h3:=rfl) (K:=K) (hK:=hK)
 have HSz:=Lib.hid (nodeV_size (k:=3) (p:=p) (v:=v) hK)
 have HSk:=Lib.hid (strv_length K)
 have HSums:=node_sums (kidsW K) (by
  have:=List.length_filter_le (fun s : List UInt8 => !s.isEmpty) K
  unfold kidsW; omega)
 have HF : Hid (fineN 3 p v K = (p.isEmpty && sumsOk (kidsW K) && decide (2 ≤ (kidsW K).length + (if v.isEmpty then 0 else 1)) && decide (v.length ≤ 32))):=Lib.hid (by simp [fineN])
 generalize CheckEnd w (fineN 3 p v K) = P at HP ⊢
 generalize fineN 3 p v K = fb at *
 go_enter Tryz.func115,Tryz.ntmps115
 go_upto_region 1 with fail
 have SZ : (Tryz.prog.info? 117).map (·.size) = some (nodeV 3 p v K).length:=by rw [HSz.out]; exact info_node
 have SZ2 : (Tryz.prog.info? 115).map (·.size) = some (strv K).length:=by rw [HSk.out,hK]; exact size_arr
 have F0 : Hid (Blk (w.alloc (.cells (nodeV 3 p v K).toArray 117)) w.heap.size 117 (nodeV 3 p v K).toArray ∧ Below w.heap.size w (w.alloc (.cells (nodeV 3 p v K).toArray 117))):=Lib.hid ⟨Blk.new _ _ _,by go_grown⟩
 generalize w.alloc (.cells (nodeV 3 p v K).toArray 117) = W0 at F0 ⊢
 have HB:=Lib.hid (show w.heap.size < W0.heap.size from F0.out.1.lt)
 obtain ⟨_,_,_,_,RA⟩:=NodeAt.of (C := []) (by rw [List.append_nil]; exact F0.out.1)
 generalize hB : w.heap.size = B at *
 clear hB
 go_upto_region 2 with (first | (refine wpList_load_mid rfl 117 _ rfl B 0 rfl _ _ RA Tryz.underlying117 rfl SZ ?_) | (go_at_call 142; refine (HC _).mono ?_; rintro e w1 ⟨A,c,n,rfl,hn,own,hb⟩; have OWN:=Lib.hid (And.intro hn own); clear hn own))
 have F1:=Lib.hid (show Below B w w1 from by have:=F0.out.2.trans (hb.mono (Nat.le_of_lt HB.out)); exact this)
 obtain ⟨_,q1,q2,RK,_⟩:=NodeAt.of (C := []) (by rw [List.append_nil]; exact F0.out.1.below hb HB.out)
 have HB1 : B < w1.heap.size:=Nat.lt_of_lt_of_le HB.out hb.size
 clear hb F0 RA SZ
 have T : Hid (∀ b w',fb = b → Below B w w' → P (Ending.returned (.int .i64 (if b then 0 else 80))) w'):=HP
 clear HP
 have RS : Hid (Reads w1 w1.heap.size 1 A n (strv (kidsW K))):=Lib.hid (Reads.of_own OWN.out.2)
 have hn:=OWN.out.1
 clear OWN
 have hk16 : (kidsW K).length ≤ 16:=by
  have:=List.length_filter_le (fun s : List UInt8 => !s.isEmpty) K
  unfold kidsW; omega
 replace HSums : Calls Tryz.prog 144 #[.slice A n c] w1 fun e w'=>e = .returned (.bool (sumsOk (kidsW K))) ∧ w1 = w':=by
  rw [hn]; exact HSums w1 A c (by rw [← hn]; exact RS.out)
 rw [← hn] at HF hk16
 clear hn RS
 generalize sumsOk (kidsW K) = b1 at *
 by_cases hp0 : p = []
 ·subst hp0
  cases b1 with
  | false =>
   by_cases hv0 : v = []
   ·subst hv0
    go_wp2_with (go_at_call 144; refine HSums.mono ?_; rintro e w2 ⟨rfl,rfl⟩)
    exact T.out false _ (by rw [HF.out]; try rfl) F1.out
   ·have ne1 : (v.toArray = #[]) = False:=by simp [hv0]
    have HE : v.isEmpty = false:=by simp [hv0]
    go_wp2_with (go_at_call 144; refine HSums.mono ?_; rintro e w2 ⟨rfl,rfl⟩)
    exact T.out false _ (by rw [HF.out]; try rfl) F1.out
  | true =>
   by_cases hv0 : v = []
   ·subst hv0
    by_cases h2 : 2 ≤ n
    ·have h2' : (2 : Int) ≤ n:=by omega
     go_wp2_with (go_at_call 144; refine HSums.mono ?_; rintro e w2 ⟨rfl,rfl⟩)
     exact T.out true _ (by rw [HF.out]; simp [h2]) F1.out
    ·have h2' : ((2 : Int) ≤ n) = False:=by simp; omega
     go_wp2_with (go_at_call 144; refine HSums.mono ?_; rintro e w2 ⟨rfl,rfl⟩)
     exact T.out false _ (by rw [HF.out]; simp [h2]) F1.out
   ·have ne1 : (v.toArray = #[]) = False:=by simp [hv0]
    have HE : v.isEmpty = false:=by simp [hv0]
    by_cases h2 : 1 ≤ n
    ·have h2' : (2 : Int) ≤ n + 1:=by omega
     have h2'' : (1 : Int) ≤ n:=by omega
     by_cases h32 : v.length ≤ 32
     ·have h32' : (v.length : Int) ≤ 32:=by omega
      go_wp2_with (go_at_call 144; refine HSums.mono ?_; rintro e w2 ⟨rfl,rfl⟩)
      exact T.out true _ (by rw [HF.out,HE]; simp [h2,h32]) F1.out
     ·have h32' : ((v.length : Int) ≤ 32) = False:=by simp; omega
      go_wp2_with (go_at_call 144; refine HSums.mono ?_; rintro e w2 ⟨rfl,rfl⟩)
      exact T.out false _ (by rw [HF.out,HE]; simp [h2,h32]) F1.out
    ·have h2' : ((2 : Int) ≤ n + 1) = False:=by simp; omega
     have h2'' : ((1 : Int) ≤ n) = False:=by simp; omega
     go_wp2_with (go_at_call 144; refine HSums.mono ?_; rintro e w2 ⟨rfl,rfl⟩)
     exact T.out false _ (by rw [HF.out,HE]; simp [h2]) F1.out
 ·have ne0 : (p.toArray = #[]) = False:=by simp [hp0]
  have HE0 : p.isEmpty = false:=by simp [hp0]
  by_cases hv0 : v = []
  ·subst hv0
   go_wp2
   exact T.out false _ (by rw [HF.out,HE0]; try rfl) F1.out
  ·have ne1 : (v.toArray = #[]) = False:=by simp [hv0]
   have HE : v.isEmpty = false:=by simp [hv0]
   go_wp2
   exact T.out false _ (by rw [HF.out,HE0]; try rfl) F1.out
set_option maxRecDepth 100000 in
theorem check_odd (p v : List UInt8) (hp : p.length ≤ 1048576) (hv : v.length ≤ 9223372036854775000) (K : List (List UInt8)) (hK : K.length = 16) (hKs : ∀ s ∈ K,s.length ≤ 9223372036854775807) (k : Nat) (k1 : k ≠ 1) (k2 : k ≠ 2) (k3 : k ≠ 3) (w : World) :
  Calls Tryz.prog 115 #[.agg (nodeV k p v K).toArray] w (CheckEnd w (fineN k p v K)):=by
 have HP : Hid (∀ b w',fineN k p v K = b → Below w.heap.size w w' → CheckEnd w (fineN k p v K) (.returned (.int .i64 (if b then 0 else 80))) w'):=Lib.hid (fun b w' h1 h2=>⟨by rw [h1],h2⟩)
 have HC:=node_Kids (nk:=.int .i64 k) (np:=.string ⟨p.toArray⟩) (nv:=.string ⟨v.toArray⟩) (h1:=rfl) (h2:=rfl) (h3:=rfl) (K:=K) (hK:=hK)
 have HSz:=Lib.hid (nodeV_size (k:=k) (p:=p) (v:=v) hK)
 have HSk:=Lib.hid (strv_length K)
 have HF : Hid (fineN k p v K = false):=Lib.hid (by simp [fineN,k1,k2,k3])
 have e1 : ((k : Int) == 1) = false:=by simp; omega
 have e2 : ((k : Int) == 2) = false:=by simp; omega
 have e3 : ((k : Int) == 3) = false:=by simp; omega
 clear k1 k2 k3
 generalize CheckEnd w (fineN k p v K) = P at HP ⊢
 generalize fineN k p v K = fb at *
 go_enter Tryz.func115,Tryz.ntmps115
 go_upto_region 1 with fail
 have SZ : (Tryz.prog.info? 117).map (·.size) = some (nodeV k p v K).length:=by rw [HSz.out]; exact info_node
 have SZ2 : (Tryz.prog.info? 115).map (·.size) = some (strv K).length:=by rw [HSk.out,hK]; exact size_arr
 have F0 : Hid (Blk (w.alloc (.cells (nodeV k p v K).toArray 117)) w.heap.size 117 (nodeV k p v K).toArray ∧ Below w.heap.size w (w.alloc (.cells (nodeV k p v K).toArray 117))):=Lib.hid ⟨Blk.new _ _ _,by go_grown⟩
 generalize w.alloc (.cells (nodeV k p v K).toArray 117) = W0 at F0 ⊢
 have HB:=Lib.hid (show w.heap.size < W0.heap.size from F0.out.1.lt)
 obtain ⟨_,_,_,_,RA⟩:=NodeAt.of (C := []) (by rw [List.append_nil]; exact F0.out.1)
 generalize hB : w.heap.size = B at *
 clear hB
 go_upto_region 2 with (first | (refine wpList_load_mid rfl 117 _ rfl B 0 rfl _ _ RA Tryz.underlying117 rfl SZ ?_) | (go_at_call 142; refine (HC _).mono ?_; rintro e w1 ⟨A,c,n,rfl,hn,own,hb⟩; have OWN:=Lib.hid (And.intro hn own); clear hn own))
 have F1:=Lib.hid (show Below B w w1 from by have:=F0.out.2.trans (hb.mono (Nat.le_of_lt HB.out)); exact this)
 obtain ⟨_,q1,q2,RK,_⟩:=NodeAt.of (C := []) (by rw [List.append_nil]; exact F0.out.1.below hb HB.out)
 have HB1 : B < w1.heap.size:=Nat.lt_of_lt_of_le HB.out hb.size
 clear hb F0 RA SZ
 have T : Hid (∀ b w',fb = b → Below B w w' → P (Ending.returned (.int .i64 (if b then 0 else 80))) w'):=HP
 clear HP
 go_wp2
 exact T.out false _ HF.out F1.out
theorem node_Check (k : Nat) (p v : List UInt8) (hp : p.length ≤ 1048576) (hv : v.length ≤ 9223372036854775000) (K : List (List UInt8)) (hK : K.length = 16) (hKs : ∀ s ∈ K,s.length ≤ 9223372036854775807) (w : World) :
  Calls Tryz.prog 115 #[.agg (nodeV k p v K).toArray] w (CheckEnd w (fineN k p v K)):=by
 by_cases h1 : k = 1
 ·subst h1; exact check_leaf p v hp hv K hK hKs w
 ·by_cases h2 : k = 2
  ·subst h2; exact check_ext p v hp hv K hK hKs w
  ·by_cases h3 : k = 3
   ·subst h3; exact check_branch p v hp hv K hK hKs w
   ·exact check_odd p v hp hv K hK hKs k h1 h2 h3 w
end Go.Proofs.YtomnlhbioijfhaaGreatDoor
