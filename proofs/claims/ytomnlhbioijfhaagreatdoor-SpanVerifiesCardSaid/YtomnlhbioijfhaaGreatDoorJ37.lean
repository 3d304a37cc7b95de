import Derived.Test.YtomnlhbioijfhaaGreatDoorJ29
import Derived.Test.YtomnlhbioijfhaaGreatDoorJ26
import Derived.Deep.DeepCutAuto
set_option linter.unusedSimpArgs false
set_option linter.unusedVariables false
namespace Go.Proofs.YtomnlhbioijfhaaGreatDoor
open Go.RowKit Go.Instr
attribute [local go_sem] ba_get ByteArray.mk_append_mk
theorem decN_flag {s : List UInt8} (h : (readN 100 s).2.2 = false) : decN s = (zeroN,80):=by
 rcases decN_cases s with h0 | ⟨n,h0,h1,h2,h3⟩
 ·exact h0
 ·have:=readN_of 100 (by omega) n h1 h2
  rw [h3] at this
  rw [this] at h
  cases h
theorem decN_ref' {s : List UInt8} (hs : s ≠ []) {n : Nd} {st : List UInt8 × Nat} {b : Bool} (e : readN 100 s = (n,st,b)) : decN s = if st.2 ≠ 0 ∨ n.2.2.2.length ≠ 16 ∨ fineD n = false ∨ textD n ≠ s then (zeroN,80) else (n,0):=by
 rw [decN_ref s hs,e]
theorem read_two (x y : UInt8) (i : Nat) (W : World) (hi : i < 16) : (Instr.index 9 (.string ⟨#[x,y]⟩) (.int .i64 ((i : Int) / 8))).run Tryz.prog W = .ok (.int .u8 (((if i < 8 then x.toNat else y.toNat : Nat)) : Int)) W:=by
 by_cases h : i < 8
 ·rw [if_pos h,show ((i : Int) / 8) = ((0 : Nat) : Int) by omega]
  exact run_byte [x,y] 0 (by simp) W
 ·rw [if_neg h,show ((i : Int) / 8) = ((1 : Nat) : Int) by omega]
  exact run_byte [x,y] 1 (by simp) W
set_option maxRecDepth 100000 in
set_option maxHeartbeats 2000000 in
theorem ref08_Decode (w : World) (s : List UInt8) (hs : s.length ≤ 1000000) :
  Calls Tryz.prog 84 #[.string ⟨s.toArray⟩] w (DecNEnd w (decN s)):=by
 have HP : Hid (∀ w' n (c : Nat),decN s = (n,c) → Below w.heap.size w w' → DecNEnd w (decN s) (.returned (.tuple #[.agg (nodeV n.1 n.2.1 n.2.2.1 n.2.2.2).toArray,.int .i64 (c : Int)])) w'):=Lib.hid (fun w' n c e h=>by rw [e]; exact ⟨rfl,h⟩)
 generalize DecNEnd w (decN s) = P at HP ⊢
 obtain ⟨rb,hrb⟩ : ∃ rb,w.heap.size = rb:=⟨_,rfl⟩
 have b1 : Hid (Blk (w.alloc (.cells #[.int .i64 0,.string ⟨#[]⟩,.string ⟨#[]⟩,.string ⟨#[]⟩,.string ⟨#[]⟩,.string ⟨#[]⟩,.string ⟨#[]⟩,.string ⟨#[]⟩,.string ⟨#[]⟩,.string ⟨#[]⟩,.string ⟨#[]⟩,.string ⟨#[]⟩,.string ⟨#[]⟩,.string ⟨#[]⟩,.string ⟨#[]⟩,.string ⟨#[]⟩,.string ⟨#[]⟩,.string ⟨#[]⟩,.string ⟨#[]⟩] 117)) rb 117 #[.int .i64 0,.string ⟨#[]⟩,.string ⟨#[]⟩,.string ⟨#[]⟩,.string ⟨#[]⟩,.string ⟨#[]⟩,.string ⟨#[]⟩,.string ⟨#[]⟩,.string ⟨#[]⟩,.string ⟨#[]⟩,.string ⟨#[]⟩,.string ⟨#[]⟩,.string ⟨#[]⟩,.string ⟨#[]⟩,.string ⟨#[]⟩,.string ⟨#[]⟩,.string ⟨#[]⟩,.string ⟨#[]⟩,.string ⟨#[]⟩] ∧ Below w.heap.size w (w.alloc (.cells #[.int .i64 0,.string ⟨#[]⟩,.string ⟨#[]⟩,.string ⟨#[]⟩,.string ⟨#[]⟩,.string ⟨#[]⟩,.string ⟨#[]⟩,.string ⟨#[]⟩,.string ⟨#[]⟩,.string ⟨#[]⟩,.string ⟨#[]⟩,.string ⟨#[]⟩,.string ⟨#[]⟩,.string ⟨#[]⟩,.string ⟨#[]⟩,.string ⟨#[]⟩,.string ⟨#[]⟩,.string ⟨#[]⟩,.string ⟨#[]⟩] 117)) ∧ w.heap.size ≤ rb):=Lib.hid (by subst hrb; exact ⟨Blk.new w _ _,by go_grown,Nat.le_refl _⟩)
 cases s with
 | nil =>
  have HE : Hid (decN [] = (zeroN,80)):=Lib.hid (by decide +kernel)
  clear hs
  go_enter Tryz.func84,Tryz.ntmps84
  go_upto_region 1 with fail
  try rw [hrb]
  generalize w.alloc (.cells #[.int .i64 0,.string ⟨#[]⟩,.string ⟨#[]⟩,.string ⟨#[]⟩,.string ⟨#[]⟩,.string ⟨#[]⟩,.string ⟨#[]⟩,.string ⟨#[]⟩,.string ⟨#[]⟩,.string ⟨#[]⟩,.string ⟨#[]⟩,.string ⟨#[]⟩,.string ⟨#[]⟩,.string ⟨#[]⟩,.string ⟨#[]⟩,.string ⟨#[]⟩,.string ⟨#[]⟩,.string ⟨#[]⟩,.string ⟨#[]⟩] 117) = W1 at b1 ⊢
  clear hrb
  have F5 : Hid (Live w W1 [(rb,117,#[.int .i64 0,.string ⟨#[]⟩,.string ⟨#[]⟩,.string ⟨#[]⟩,.string ⟨#[]⟩,.string ⟨#[]⟩,.string ⟨#[]⟩,.string ⟨#[]⟩,.string ⟨#[]⟩,.string ⟨#[]⟩,.string ⟨#[]⟩,.string ⟨#[]⟩,.string ⟨#[]⟩,.string ⟨#[]⟩,.string ⟨#[]⟩,.string ⟨#[]⟩,.string ⟨#[]⟩,.string ⟨#[]⟩,.string ⟨#[]⟩])]):=Lib.hid (Live.one (b1.out.2.1.nxt (Below.refl _ _)) b1.out.2.2 (b1.out.1.below (Below.refl _ _) b1.out.1.lt))
  have TH:=F5.out.there 0 19 rfl (by decide)
  have HON : (#[.int .i64 0,.string ⟨#[]⟩,.string ⟨#[]⟩,.string ⟨#[]⟩,.string ⟨#[]⟩,.string ⟨#[]⟩,.string ⟨#[]⟩,.string ⟨#[]⟩,.string ⟨#[]⟩,.string ⟨#[]⟩,.string ⟨#[]⟩,.string ⟨#[]⟩,.string ⟨#[]⟩,.string ⟨#[]⟩,.string ⟨#[]⟩,.string ⟨#[]⟩,.string ⟨#[]⟩,.string ⟨#[]⟩,.string ⟨#[]⟩] : Array Value).all (·.oneCell') = true:=by rw [zeros_eq]; exact nodeV_one _ _ _ _
  go_wp2_with (first | ((with_reducible refine at_op 14 ?_); refine wpList_build_eq rfl 117 _ rfl #[.int .i64 0,.string ⟨#[]⟩,.string ⟨#[]⟩,.string ⟨#[]⟩,.string ⟨#[]⟩,.string ⟨#[]⟩,.string ⟨#[]⟩,.string ⟨#[]⟩,.string ⟨#[]⟩,.string ⟨#[]⟩,.string ⟨#[]⟩,.string ⟨#[]⟩,.string ⟨#[]⟩,.string ⟨#[]⟩,.string ⟨#[]⟩,.string ⟨#[]⟩,.string ⟨#[]⟩,.string ⟨#[]⟩,.string ⟨#[]⟩] (by simp only [List.map_toArray,List.map_cons,List.map_nil]; kernel_rfl) ?_) | ((with_reducible refine at_put 14 ?_); refine wpList_store_mid rfl 117 _ _ rfl rb 0 #[.int .i64 0,.string ⟨#[]⟩,.string ⟨#[]⟩,.string ⟨#[]⟩,.string ⟨#[]⟩,.string ⟨#[]⟩,.string ⟨#[]⟩,.string ⟨#[]⟩,.string ⟨#[]⟩,.string ⟨#[]⟩,.string ⟨#[]⟩,.string ⟨#[]⟩,.string ⟨#[]⟩,.string ⟨#[]⟩,.string ⟨#[]⟩,.string ⟨#[]⟩,.string ⟨#[]⟩,.string ⟨#[]⟩,.string ⟨#[]⟩] rfl rfl TH info_node HON ?_; have F6:=Live.hall F5 0 (#[.int .i64 0,.string ⟨#[]⟩,.string ⟨#[]⟩,.string ⟨#[]⟩,.string ⟨#[]⟩,.string ⟨#[]⟩,.string ⟨#[]⟩,.string ⟨#[]⟩,.string ⟨#[]⟩,.string ⟨#[]⟩,.string ⟨#[]⟩,.string ⟨#[]⟩,.string ⟨#[]⟩,.string ⟨#[]⟩,.string ⟨#[]⟩,.string ⟨#[]⟩,.string ⟨#[]⟩,.string ⟨#[]⟩,.string ⟨#[]⟩] : Array Value).toList rfl rfl; generalize World.setCells _ rb 0 _ = W6 at F6 ⊢; have ld : (loadVar 117 ⟨rb,0,none⟩).run Tryz.prog W6 = .ok (.agg #[.int .i64 0,.string ⟨#[]⟩,.string ⟨#[]⟩,.string ⟨#[]⟩,.string ⟨#[]⟩,.string ⟨#[]⟩,.string ⟨#[]⟩,.string ⟨#[]⟩,.string ⟨#[]⟩,.string ⟨#[]⟩,.string ⟨#[]⟩,.string ⟨#[]⟩,.string ⟨#[]⟩,.string ⟨#[]⟩,.string ⟨#[]⟩,.string ⟨#[]⟩,.string ⟨#[]⟩,.string ⟨#[]⟩,.string ⟨#[]⟩]) W6:=run_loadVar_mid (P:=Tryz.prog) W6 rb 0 117 (#[.int .i64 0,.string ⟨#[]⟩,.string ⟨#[]⟩,.string ⟨#[]⟩,.string ⟨#[]⟩,.string ⟨#[]⟩,.string ⟨#[]⟩,.string ⟨#[]⟩,.string ⟨#[]⟩,.string ⟨#[]⟩,.string ⟨#[]⟩,.string ⟨#[]⟩,.string ⟨#[]⟩,.string ⟨#[]⟩,.string ⟨#[]⟩,.string ⟨#[]⟩,.string ⟨#[]⟩,.string ⟨#[]⟩,.string ⟨#[]⟩] : Array Value).toList _ (Blk.range0 (F6.out.blk 0 rfl)) Tryz.underlying117 rfl info_node; clear TH))
  have HF : P (.returned (.tuple #[.agg #[.int .i64 0,.string ⟨#[]⟩,.string ⟨#[]⟩,.string ⟨#[]⟩,.string ⟨#[]⟩,.string ⟨#[]⟩,.string ⟨#[]⟩,.string ⟨#[]⟩,.string ⟨#[]⟩,.string ⟨#[]⟩,.string ⟨#[]⟩,.string ⟨#[]⟩,.string ⟨#[]⟩,.string ⟨#[]⟩,.string ⟨#[]⟩,.string ⟨#[]⟩,.string ⟨#[]⟩,.string ⟨#[]⟩,.string ⟨#[]⟩],.int .i64 80])) W6:=HP.out W6 zeroN 80 HE.out F6.out.b
  exact ⟨rfl,_,results_cell2 rfl rfl ld rfl,HF⟩
 | cons c r =>
 obtain ⟨s,hsr⟩ : ∃ s,s = c :: r:=⟨_,rfl⟩
 rw [← hsr] at HP hs ⊢
 have hkr : kindR s = c.toNat:=by rw [hsr]; rfl
 have hb1 : bytesS (s,0) 1 = ([c],(r,0)):=by rw [hsr]; unfold bytesS; simp
 have H3:=Lib.hid (readN_3 100 s)
 have HO:=Lib.hid (readN_o 100 s)
 rw [hb1,hkr] at H3 HO
 simp only at H3 HO
 have hne : s ≠ []:=by rw [hsr]; simp
 have HX : Hid (∀ n st b,readN 100 s = (n,st,b) → decN s = if st.2 ≠ 0 ∨ n.2.2.2.length ≠ 16 ∨ fineD n = false ∨ textD n ≠ s then (zeroN,80) else (n,0)):=Lib.hid (fun n st b e=>decN_ref' hne e)
 have HFl : Hid ((readN 100 s).2.2 = false → decN s = (zeroN,80)):=Lib.hid decN_flag
 have HS:=Lib.hid (readN_short 100 (by omega) s)
 have HTl : ∀ W,(Instr.slice 9 (.string ⟨s.toArray⟩) (some (.int .i64 1)) none none).run Tryz.prog W = .ok (.string ⟨r.toArray⟩) W:=by rw [hsr]; exact run_tail c r
 have hix : ∀ W,(Instr.index 9 (.string ⟨s.toArray⟩) (.int .i64 0)).run Tryz.prog W = .ok (.int .u8 (c.toNat : Int)) W:=by rw [hsr]; exact fun W=>run_byte (c :: r) 0 (by simp) W
 have hw : wrap64 (c.toNat : Int) = (c.toNat : Int):=IntWalk.wrap64_in _ (by have:=c.toNat_lt; constructor <;> omega)
 have ne1 : (s.toArray = #[]) = False:=by rw [hsr]; simp
 have ne2 : s.isEmpty = false:=by rw [hsr]; rfl
 have HLr : Hid (r.length ≤ 1000000):=Lib.hid (by rw [hsr] at hs; simp at hs; omega)
 generalize c.toNat = kk at *
 clear hkr hb1 hsr hs hne
 go_enter Tryz.func84,Tryz.ntmps84
 go_upto_region 1 with fail
 try rw [hrb]
 generalize w.alloc (.cells #[.int .i64 0,.string ⟨#[]⟩,.string ⟨#[]⟩,.string ⟨#[]⟩,.string ⟨#[]⟩,.string ⟨#[]⟩,.string ⟨#[]⟩,.string ⟨#[]⟩,.string ⟨#[]⟩,.string ⟨#[]⟩,.string ⟨#[]⟩,.string ⟨#[]⟩,.string ⟨#[]⟩,.string ⟨#[]⟩,.string ⟨#[]⟩,.string ⟨#[]⟩,.string ⟨#[]⟩,.string ⟨#[]⟩,.string ⟨#[]⟩] 117) = W1 at b1 ⊢
 clear hrb
 go_upto_region 4 with fail
 have G0 : Hid (Blk (W1.alloc (.cells #[.string ⟨r.toArray⟩,.int .i64 0] 133)) W1.heap.size 133 #[.string ⟨r.toArray⟩,.int .i64 0] ∧ Below W1.heap.size W1 (W1.alloc (.cells #[.string ⟨r.toArray⟩,.int .i64 0] 133)) ∧ W1.heap.size < (W1.alloc (.cells #[.string ⟨r.toArray⟩,.int .i64 0] 133)).heap.size):=Lib.hid ⟨Blk.new _ _ _,by go_grown,by simp⟩
 have HG1 : Hid (W1.heap.size ≤ W1.heap.size):=Lib.hid (Nat.le_refl _)
 obtain ⟨g,hg⟩ : ∃ g,W1.heap.size = g:=⟨_,rfl⟩
 have G1 : Hid (Blk (W1.alloc (.cells #[.string ⟨r.toArray⟩,.int .i64 0] 133)) g 133 #[.string ⟨r.toArray⟩,.int .i64 0] ∧ W1.heap.size ≤ g ∧ Below W1.heap.size W1 (W1.alloc (.cells #[.string ⟨r.toArray⟩,.int .i64 0] 133))):=Lib.hid ⟨by rw [← hg]; exact G0.out.1,by omega,G0.out.2.1⟩
 rw [hg]
 clear G0 HG1 hg
 generalize W1.alloc (.cells #[.string ⟨r.toArray⟩,.int .i64 0] 133) = W2 at G1 ⊢
 have F3 : Hid (Live W2 (W2.alloc (.cells #[.int .i64 0,.string ⟨#[]⟩,.string ⟨#[]⟩,.string ⟨#[]⟩,.string ⟨#[]⟩,.string ⟨#[]⟩,.string ⟨#[]⟩,.string ⟨#[]⟩,.string ⟨#[]⟩,.string ⟨#[]⟩,.string ⟨#[]⟩,.string ⟨#[]⟩,.string ⟨#[]⟩,.string ⟨#[]⟩,.string ⟨#[]⟩,.string ⟨#[]⟩,.string ⟨#[]⟩,.string ⟨#[]⟩,.string ⟨#[]⟩] 117)) [(W2.heap.size,117,#[.int .i64 0,.string ⟨#[]⟩,.string ⟨#[]⟩,.string ⟨#[]⟩,.string ⟨#[]⟩,.string ⟨#[]⟩,.string ⟨#[]⟩,.string ⟨#[]⟩,.string ⟨#[]⟩,.string ⟨#[]⟩,.string ⟨#[]⟩,.string ⟨#[]⟩,.string ⟨#[]⟩,.string ⟨#[]⟩,.string ⟨#[]⟩,.string ⟨#[]⟩,.string ⟨#[]⟩,.string ⟨#[]⟩,.string ⟨#[]⟩])]):=Lib.hid (Live.one (by go_grown) (Nat.le_refl _) (Blk.new _ _ _))
 have TH:=F3.out.there 0 19 rfl (by decide)
 have HON : (#[.int .i64 (kk : Int),.string ⟨#[]⟩,.string ⟨#[]⟩,.string ⟨#[]⟩,.string ⟨#[]⟩,.string ⟨#[]⟩,.string ⟨#[]⟩,.string ⟨#[]⟩,.string ⟨#[]⟩,.string ⟨#[]⟩,.string ⟨#[]⟩,.string ⟨#[]⟩,.string ⟨#[]⟩,.string ⟨#[]⟩,.string ⟨#[]⟩,.string ⟨#[]⟩,.string ⟨#[]⟩,.string ⟨#[]⟩,.string ⟨#[]⟩] : Array Value).all (·.oneCell') = true:=nodeV_one kk [] [] zeroK
 go_upto_region 5 with (first | ((with_reducible refine at_op 22 ?_); refine wpList_build_eq rfl 117 _ rfl #[.int .i64 (kk : Int),.string ⟨#[]⟩,.string ⟨#[]⟩,.string ⟨#[]⟩,.string ⟨#[]⟩,.string ⟨#[]⟩,.string ⟨#[]⟩,.string ⟨#[]⟩,.string ⟨#[]⟩,.string ⟨#[]⟩,.string ⟨#[]⟩,.string ⟨#[]⟩,.string ⟨#[]⟩,.string ⟨#[]⟩,.string ⟨#[]⟩,.string ⟨#[]⟩,.string ⟨#[]⟩,.string ⟨#[]⟩,.string ⟨#[]⟩] (by simp only [List.map_toArray,List.map_cons,List.map_nil]; kernel_rfl) ?_) | ((with_reducible refine at_put 22 ?_); refine wpList_store_mid rfl 117 _ _ rfl W2.heap.size 0 #[.int .i64 (kk : Int),.string ⟨#[]⟩,.string ⟨#[]⟩,.string ⟨#[]⟩,.string ⟨#[]⟩,.string ⟨#[]⟩,.string ⟨#[]⟩,.string ⟨#[]⟩,.string ⟨#[]⟩,.string ⟨#[]⟩,.string ⟨#[]⟩,.string ⟨#[]⟩,.string ⟨#[]⟩,.string ⟨#[]⟩,.string ⟨#[]⟩,.string ⟨#[]⟩,.string ⟨#[]⟩,.string ⟨#[]⟩,.string ⟨#[]⟩] rfl rfl TH info_node HON ?_))
 have F4:=Live.hall F3 0 (#[.int .i64 (kk : Int),.string ⟨#[]⟩,.string ⟨#[]⟩,.string ⟨#[]⟩,.string ⟨#[]⟩,.string ⟨#[]⟩,.string ⟨#[]⟩,.string ⟨#[]⟩,.string ⟨#[]⟩,.string ⟨#[]⟩,.string ⟨#[]⟩,.string ⟨#[]⟩,.string ⟨#[]⟩,.string ⟨#[]⟩,.string ⟨#[]⟩,.string ⟨#[]⟩,.string ⟨#[]⟩,.string ⟨#[]⟩,.string ⟨#[]⟩] : Array Value).toList rfl rfl
 generalize World.setCells _ W2.heap.size 0 _ = W4 at F4 ⊢
 have N1 : Hid (RRdNd W1 W4 g W2.heap.size (r,0) (kk, [], [],zeroK)):=Lib.hid ⟨⟨G1.out.1.below F4.out.b G1.out.1.lt,HLr.out⟩,F4.out.blk 0 rfl,by have:=G1.out.1.lt; omega,G1.out.2.1,G1.out.2.2.size,G1.out.2.2.nxt F4.out.b⟩
 generalize W2.heap.size = nb at N1 ⊢
 clear TH HON F3 F4 G1 hw hix HTl
 have k0 : W4.cell? ⟨nb,0,none⟩ = some (.int .i64 (kk : Int)):=N1.out.at0.1
 go_upto_if 25 with fail
 go_cut [] (fun wx => ∃ n st b,readN 100 s = (n,st,b) ∧ RRdNd W1 wx g nb st n)
 case first =>
  by_cases hk : kk = 3
  ·as_aux_lemma =>
   subst hk
   have e:=H3.out rfl
   have HX3 : Hid (brR (r,0) = if (bytesS (r,0) 2).1 = [] then (([],zeroK),(bytesS (r,0) 2).2)
 else (((txtS (kidsR (set2 (bytesS (r,0) 2).1) 16 (bytesS (r,0) 2).2).2 32).1,(kidsR (set2 (bytesS (r,0) 2).1) 16 (bytesS (r,0) 2).2).1),(txtS (kidsR (set2 (bytesS (r,0) 2).1) 16 (bytesS (r,0) 2).2).2 32).2)):=Lib.hid rfl
   generalize brR (r,0) = X at *
   have HE0:=Lib.hid e
   have HBy:=Lib.hid (ref02_RBytes W4 g (r,0) N1.out.rd 2 (by omega))
   have hlen:=bytesS_len (r,0) 2
   generalize bytesS (r,0) 2 = br at *
   obtain ⟨bits,s2⟩:=br
   simp only at HX3 HBy hlen
   clear e k0 H3 HO
   by_cases hbits : bits = []
   ·subst hbits
    rw [if_pos rfl] at HX3
    have HE : Hid (decN s = (zeroN,80)):=Lib.hid (by
     have:=HX.out _ _ _ HE0.out
     rw [HX3.out] at this
     rw [this,if_pos]
     exact .inr (.inr (.inl (show fineD (3, [], [],zeroK) = false by decide))))
    clear hlen
    go_wp2_with fail
    refine HBy.out.mono ?_
    rintro e w5 ⟨rfl,h1,h2⟩
    have N5:=Lib.hid (N1.out.read h1 h2)
    clear h1 h2
    have F5 : Hid (Live w w5 [(rb,117,#[.int .i64 0,.string ⟨#[]⟩,.string ⟨#[]⟩,.string ⟨#[]⟩,.string ⟨#[]⟩,.string ⟨#[]⟩,.string ⟨#[]⟩,.string ⟨#[]⟩,.string ⟨#[]⟩,.string ⟨#[]⟩,.string ⟨#[]⟩,.string ⟨#[]⟩,.string ⟨#[]⟩,.string ⟨#[]⟩,.string ⟨#[]⟩,.string ⟨#[]⟩,.string ⟨#[]⟩,.string ⟨#[]⟩,.string ⟨#[]⟩])]):=Lib.hid (Live.one (b1.out.2.1.nxt N5.out.b) b1.out.2.2 (b1.out.1.below N5.out.b b1.out.1.lt))
    have TH:=F5.out.there 0 19 rfl (by decide)
    have HON : (#[.int .i64 0,.string ⟨#[]⟩,.string ⟨#[]⟩,.string ⟨#[]⟩,.string ⟨#[]⟩,.string ⟨#[]⟩,.string ⟨#[]⟩,.string ⟨#[]⟩,.string ⟨#[]⟩,.string ⟨#[]⟩,.string ⟨#[]⟩,.string ⟨#[]⟩,.string ⟨#[]⟩,.string ⟨#[]⟩,.string ⟨#[]⟩,.string ⟨#[]⟩,.string ⟨#[]⟩,.string ⟨#[]⟩,.string ⟨#[]⟩] : Array Value).all (·.oneCell') = true:=by rw [zeros_eq]; exact nodeV_one _ _ _ _
    go_wp2_with (first | ((with_reducible refine at_op 31 ?_); refine wpList_build_eq rfl 117 _ rfl #[.int .i64 0,.string ⟨#[]⟩,.string ⟨#[]⟩,.string ⟨#[]⟩,.string ⟨#[]⟩,.string ⟨#[]⟩,.string ⟨#[]⟩,.string ⟨#[]⟩,.string ⟨#[]⟩,.string ⟨#[]⟩,.string ⟨#[]⟩,.string ⟨#[]⟩,.string ⟨#[]⟩,.string ⟨#[]⟩,.string ⟨#[]⟩,.string ⟨#[]⟩,.string ⟨#[]⟩,.string ⟨#[]⟩,.string ⟨#[]⟩] (by simp only [List.map_toArray,List.map_cons,List.map_nil]; kernel_rfl) ?_) | ((with_reducible refine at_put 31 ?_); refine wpList_store_mid rfl 117 _ _ rfl rb 0 #[.int .i64 0,.string ⟨#[]⟩,.string ⟨#[]⟩,.string ⟨#[]⟩,.string ⟨#[]⟩,.string ⟨#[]⟩,.string ⟨#[]⟩,.string ⟨#[]⟩,.string ⟨#[]⟩,.string ⟨#[]⟩,.string ⟨#[]⟩,.string ⟨#[]⟩,.string ⟨#[]⟩,.string ⟨#[]⟩,.string ⟨#[]⟩,.string ⟨#[]⟩,.string ⟨#[]⟩,.string ⟨#[]⟩,.string ⟨#[]⟩] rfl rfl TH info_node HON ?_; have F6:=Live.hall F5 0 (#[.int .i64 0,.string ⟨#[]⟩,.string ⟨#[]⟩,.string ⟨#[]⟩,.string ⟨#[]⟩,.string ⟨#[]⟩,.string ⟨#[]⟩,.string ⟨#[]⟩,.string ⟨#[]⟩,.string ⟨#[]⟩,.string ⟨#[]⟩,.string ⟨#[]⟩,.string ⟨#[]⟩,.string ⟨#[]⟩,.string ⟨#[]⟩,.string ⟨#[]⟩,.string ⟨#[]⟩,.string ⟨#[]⟩,.string ⟨#[]⟩] : Array Value).toList rfl rfl; generalize World.setCells _ rb 0 _ = W6 at F6 ⊢; have ld : (loadVar 117 ⟨rb,0,none⟩).run Tryz.prog W6 = .ok (.agg #[.int .i64 0,.string ⟨#[]⟩,.string ⟨#[]⟩,.string ⟨#[]⟩,.string ⟨#[]⟩,.string ⟨#[]⟩,.string ⟨#[]⟩,.string ⟨#[]⟩,.string ⟨#[]⟩,.string ⟨#[]⟩,.string ⟨#[]⟩,.string ⟨#[]⟩,.string ⟨#[]⟩,.string ⟨#[]⟩,.string ⟨#[]⟩,.string ⟨#[]⟩,.string ⟨#[]⟩,.string ⟨#[]⟩,.string ⟨#[]⟩]) W6:=run_loadVar_mid (P:=Tryz.prog) W6 rb 0 117 (#[.int .i64 0,.string ⟨#[]⟩,.string ⟨#[]⟩,.string ⟨#[]⟩,.string ⟨#[]⟩,.string ⟨#[]⟩,.string ⟨#[]⟩,.string ⟨#[]⟩,.string ⟨#[]⟩,.string ⟨#[]⟩,.string ⟨#[]⟩,.string ⟨#[]⟩,.string ⟨#[]⟩,.string ⟨#[]⟩,.string ⟨#[]⟩,.string ⟨#[]⟩,.string ⟨#[]⟩,.string ⟨#[]⟩,.string ⟨#[]⟩] : Array Value).toList _ (Blk.range0 (F6.out.blk 0 rfl)) Tryz.underlying117 rfl info_node; clear TH))
    have HF : P (.returned (.tuple #[.agg #[.int .i64 0,.string ⟨#[]⟩,.string ⟨#[]⟩,.string ⟨#[]⟩,.string ⟨#[]⟩,.string ⟨#[]⟩,.string ⟨#[]⟩,.string ⟨#[]⟩,.string ⟨#[]⟩,.string ⟨#[]⟩,.string ⟨#[]⟩,.string ⟨#[]⟩,.string ⟨#[]⟩,.string ⟨#[]⟩,.string ⟨#[]⟩,.string ⟨#[]⟩,.string ⟨#[]⟩,.string ⟨#[]⟩,.string ⟨#[]⟩],.int .i64 80])) W6:=HP.out W6 zeroN 80 HE.out F6.out.b
    exact ⟨rfl,_,results_cell2 rfl rfl ld rfl,HF⟩
   ·rw [if_neg hbits] at HX3
    obtain ⟨x,y,rfl⟩:=two_of_len (hlen.resolve_left hbits)
    clear hlen hbits
    go_wp2_with fail
    refine HBy.out.mono ?_
    rintro e w5 ⟨rfl,h1,h2⟩
    have N5:=Lib.hid (N1.out.read h1 h2)
    clear h1 h2
    go_wp2_with fail
    refine rbranch_loop W1 w5 g nb rb _ _ x y ⟨#[x,y]⟩ (read_two x y) s2 _ N5 _ ?_ _ _ _ _ _ _ _ _ _ _ _ _ _ _ _ _ _ _ _ _ _ _ _ _ _ _ _ _ _ _ _ _ _ _ _ _ _ _ _ _ _ _ _ _ _ _ _ _ _ _ _ _ _ _ _ _ _ _ _ _ _ _ _ _ _ _ _ _ _ _ _ _ _ _ _ _ _ _ _ _ _ _ _ _ _ _ _ _
    intro s6 s7 s8 s9 s10 s11 s12 s13 s14 s15 s16 s17 s18 s19 s20 s21 s22 s23 s24 s25 s26 s27 s28 s29 s30 s31 s32 s33 s34 s35 s36 s37 s38 s39 s40 s41 s42 s43 s44 s45 s46 s47 s48 s49 s50 s51 s52 s53 s54 s55 s56 s57 s58 s59 s60 s61 s62 s63 s64 s65 s66 s67 s68 s69 s70 s71 s72 s73 s74 s75 s76 s77 s78 s79 s80 s81 s82 s83 s84 s85 s86 s87 s88 s89 s90 s91 s92 s93 s94 s95 w6 h6
    generalize kidsR (set2 [x,y]) 16 s2 = kr at *
    obtain ⟨K,s3⟩:=kr
    simp only at HX3 h6
    have HT:=Lib.hid (ref02_RText w6 g s3 h6.rd 32 (by omega))
    have N6:=Lib.hid h6
    generalize txtS s3 32 = tr at *
    obtain ⟨v,s4⟩:=tr
    simp only at HX3 HT
    clear h6
    go_wp2_with fail
    refine HT.out.mono ?_
    rintro e w7 ⟨rfl,h3,h4⟩
    have N7:=Lib.hid (N6.out.read h3 h4)
    have k2 : w7.cell? ⟨nb,2,none⟩ = some (.string ⟨#[]⟩):=N7.out.at0.2.2
    have f2 : w7.frozen? ⟨nb,2,none⟩ = false:=N7.out.nd.frozen 2
    clear h3 h4
    go_wp2_with fail
    go_meet
    exact ⟨_,_,_,by rw [HE0.out,HX3.out],N7.out.write 2 _ rfl⟩
  ·as_aux_lemma =>
   have e:=HO.out hk
   have hkI : ((kk : Int) == 3) = false:=by simp; omega
   have HE0:=Lib.hid e
   have HXo:=Lib.hid (otR_eq 100 kk (r,0))
   generalize otR 100 kk (r,0) = X at *
   have HT:=Lib.hid (ref02_RText W4 g (r,0) N1.out.rd 100 (by omega))
   have hl:=txtS_most (r,0) 100
   generalize txtS (r,0) 100 = tr at *
   obtain ⟨t,s1⟩:=tr
   simp only at HXo HT hl
   have HU:=Lib.hid (fun W=>refnib_Unpack t W (by omega))
   clear hl e H3 HO
   generalize Nib.unpack t = u at *
   obtain ⟨p,leaf,ec⟩:=u
   simp only at HXo HU
   go_wp2_with fail
   refine HT.out.mono ?_
   rintro e w5 ⟨rfl,h1,h2⟩
   have N5:=Lib.hid (N1.out.read h1 h2)
   clear h1 h2 k0
   go_wp2_with fail
   refine (HU.out _).mono ?_
   rintro e w6 ⟨rfl,hb6⟩
   have N6 : Hid (RRdNd W1 w6 g nb s1 (kk, [], [],zeroK)):=Lib.hid (N5.out.below hb6)
   have k1 : w6.cell? ⟨nb,1,none⟩ = some (.string ⟨#[]⟩):=N6.out.at0.2.1
   have f1 : w6.frozen? ⟨nb,1,none⟩ = false:=N6.out.nd.frozen 1
   have k0 : w6.cell? ⟨nb,0,none⟩ = some (.int .i64 (kk : Int)):=N6.out.at0.1
   clear hb6
   by_cases hec : ec = 0
   ·subst hec
    go_upto_region 20 with fail
    have N7 : Hid (RRdNd W1 (w6.setCell ⟨nb,1,none⟩ (.string ⟨p.toArray⟩)) g nb s1 (kk,p, [],zeroK)):=Lib.hid (N6.out.write 1 _ rfl)
    generalize w6.setCell ⟨nb,1,none⟩ (.string ⟨p.toArray⟩) = W7 at *
    clear k0 k1 f1
    have k0 : W7.cell? ⟨nb,0,none⟩ = some (.int .i64 (kk : Int)):=N7.out.at0.1
    by_cases hk1 : kk = 1
    ·subst hk1
     rw [if_pos rfl] at HXo
     have HV:=Lib.hid (ref02_RText W7 g s1 N7.out.rd 32 (by omega))
     generalize txtS s1 32 = vr at *
     obtain ⟨v,s2⟩:=vr
     simp only at HXo HV
     go_wp2_with fail
     refine HV.out.mono ?_
     rintro e w8 ⟨rfl,h3,h4⟩
     have N8:=Lib.hid (N7.out.read h3 h4)
     clear k0 h3 h4
     have k2 : w8.cell? ⟨nb,2,none⟩ = some (.string ⟨#[]⟩):=N8.out.at0.2.2
     have f2 : w8.frozen? ⟨nb,2,none⟩ = false:=N8.out.nd.frozen 2
     go_wp2_with fail
     go_meet
     exact ⟨_,_,_,by rw [HE0.out,HXo.out],N8.out.write 2 _ rfl⟩
    ·rw [if_neg hk1] at HXo
     have hkI1 : ((kk : Int) == 1) = false:=by simp; omega
     have HV:=Lib.hid (ref02_RBytes W7 g s1 N7.out.rd 32 (by omega))
     generalize bytesS s1 32 = vr at *
     obtain ⟨v,s2⟩:=vr
     simp only at HXo HV
     go_wp2_with fail
     refine HV.out.mono ?_
     rintro e w8 ⟨rfl,h3,h4⟩
     have N8:=Lib.hid (N7.out.read h3 h4)
     clear k0 h3 h4
     have k3 : w8.cell? ⟨nb,3,none⟩ = some (.string ⟨#[]⟩):=N8.out.nd.cell 3
     have f3 : w8.frozen? ⟨nb,3,none⟩ = false:=N8.out.nd.frozen 3
     go_wp2_with fail
     go_meet
     exact ⟨_,_,_,by rw [HE0.out,HXo.out],N8.out.write 3 _ rfl⟩
   ·have HE : Hid (decN s = (zeroN,80)):=Lib.hid (HFl.out (by
     rw [HE0.out,HXo.out]
     split <;> simp [hec]))
    have hecI : ((ec : Int) != 0) = true:=by simp; exact hec
    clear hec
    have F5 : Hid (Live w w6 [(rb,117,#[.int .i64 0,.string ⟨#[]⟩,.string ⟨#[]⟩,.string ⟨#[]⟩,.string ⟨#[]⟩,.string ⟨#[]⟩,.string ⟨#[]⟩,.string ⟨#[]⟩,.string ⟨#[]⟩,.string ⟨#[]⟩,.string ⟨#[]⟩,.string ⟨#[]⟩,.string ⟨#[]⟩,.string ⟨#[]⟩,.string ⟨#[]⟩,.string ⟨#[]⟩,.string ⟨#[]⟩,.string ⟨#[]⟩,.string ⟨#[]⟩])]):=Lib.hid (Live.one (b1.out.2.1.nxt N6.out.b) b1.out.2.2 (b1.out.1.below N6.out.b b1.out.1.lt))
    have TH:=F5.out.there 0 19 rfl (by decide)
    have HON : (#[.int .i64 0,.string ⟨#[]⟩,.string ⟨#[]⟩,.string ⟨#[]⟩,.string ⟨#[]⟩,.string ⟨#[]⟩,.string ⟨#[]⟩,.string ⟨#[]⟩,.string ⟨#[]⟩,.string ⟨#[]⟩,.string ⟨#[]⟩,.string ⟨#[]⟩,.string ⟨#[]⟩,.string ⟨#[]⟩,.string ⟨#[]⟩,.string ⟨#[]⟩,.string ⟨#[]⟩,.string ⟨#[]⟩,.string ⟨#[]⟩] : Array Value).all (·.oneCell') = true:=by rw [zeros_eq]; exact nodeV_one _ _ _ _
    go_wp2_with (first | ((with_reducible refine at_op 65 ?_); refine wpList_build_eq rfl 117 _ rfl #[.int .i64 0,.string ⟨#[]⟩,.string ⟨#[]⟩,.string ⟨#[]⟩,.string ⟨#[]⟩,.string ⟨#[]⟩,.string ⟨#[]⟩,.string ⟨#[]⟩,.string ⟨#[]⟩,.string ⟨#[]⟩,.string ⟨#[]⟩,.string ⟨#[]⟩,.string ⟨#[]⟩,.string ⟨#[]⟩,.string ⟨#[]⟩,.string ⟨#[]⟩,.string ⟨#[]⟩,.string ⟨#[]⟩,.string ⟨#[]⟩] (by simp only [List.map_toArray,List.map_cons,List.map_nil]; kernel_rfl) ?_) | ((with_reducible refine at_put 65 ?_); refine wpList_store_mid rfl 117 _ _ rfl rb 0 #[.int .i64 0,.string ⟨#[]⟩,.string ⟨#[]⟩,.string ⟨#[]⟩,.string ⟨#[]⟩,.string ⟨#[]⟩,.string ⟨#[]⟩,.string ⟨#[]⟩,.string ⟨#[]⟩,.string ⟨#[]⟩,.string ⟨#[]⟩,.string ⟨#[]⟩,.string ⟨#[]⟩,.string ⟨#[]⟩,.string ⟨#[]⟩,.string ⟨#[]⟩,.string ⟨#[]⟩,.string ⟨#[]⟩,.string ⟨#[]⟩] rfl rfl TH info_node HON ?_; have F6:=Live.hall F5 0 (#[.int .i64 0,.string ⟨#[]⟩,.string ⟨#[]⟩,.string ⟨#[]⟩,.string ⟨#[]⟩,.string ⟨#[]⟩,.string ⟨#[]⟩,.string ⟨#[]⟩,.string ⟨#[]⟩,.string ⟨#[]⟩,.string ⟨#[]⟩,.string ⟨#[]⟩,.string ⟨#[]⟩,.string ⟨#[]⟩,.string ⟨#[]⟩,.string ⟨#[]⟩,.string ⟨#[]⟩,.string ⟨#[]⟩,.string ⟨#[]⟩] : Array Value).toList rfl rfl; generalize World.setCells _ rb 0 _ = W6 at F6 ⊢; have ld : (loadVar 117 ⟨rb,0,none⟩).run Tryz.prog W6 = .ok (.agg #[.int .i64 0,.string ⟨#[]⟩,.string ⟨#[]⟩,.string ⟨#[]⟩,.string ⟨#[]⟩,.string ⟨#[]⟩,.string ⟨#[]⟩,.string ⟨#[]⟩,.string ⟨#[]⟩,.string ⟨#[]⟩,.string ⟨#[]⟩,.string ⟨#[]⟩,.string ⟨#[]⟩,.string ⟨#[]⟩,.string ⟨#[]⟩,.string ⟨#[]⟩,.string ⟨#[]⟩,.string ⟨#[]⟩,.string ⟨#[]⟩]) W6:=run_loadVar_mid (P:=Tryz.prog) W6 rb 0 117 (#[.int .i64 0,.string ⟨#[]⟩,.string ⟨#[]⟩,.string ⟨#[]⟩,.string ⟨#[]⟩,.string ⟨#[]⟩,.string ⟨#[]⟩,.string ⟨#[]⟩,.string ⟨#[]⟩,.string ⟨#[]⟩,.string ⟨#[]⟩,.string ⟨#[]⟩,.string ⟨#[]⟩,.string ⟨#[]⟩,.string ⟨#[]⟩,.string ⟨#[]⟩,.string ⟨#[]⟩,.string ⟨#[]⟩,.string ⟨#[]⟩] : Array Value).toList _ (Blk.range0 (F6.out.blk 0 rfl)) Tryz.underlying117 rfl info_node; clear TH))
    have HF : P (.returned (.tuple #[.agg #[.int .i64 0,.string ⟨#[]⟩,.string ⟨#[]⟩,.string ⟨#[]⟩,.string ⟨#[]⟩,.string ⟨#[]⟩,.string ⟨#[]⟩,.string ⟨#[]⟩,.string ⟨#[]⟩,.string ⟨#[]⟩,.string ⟨#[]⟩,.string ⟨#[]⟩,.string ⟨#[]⟩,.string ⟨#[]⟩,.string ⟨#[]⟩,.string ⟨#[]⟩,.string ⟨#[]⟩,.string ⟨#[]⟩,.string ⟨#[]⟩],.int .i64 80])) W6:=HP.out W6 zeroN 80 HE.out F6.out.b
    exact ⟨rfl,_,results_cell2 rfl rfl ld rfl,HF⟩
 case rest =>
 obtain ⟨⟨k,p,v,K⟩,st,fb,e,n4⟩:=hcut
 have HX2:=Lib.hid (HX.out _ _ _ e)
 rw [e] at HS
 simp only at HX2 HS
 have N4:=Lib.hid n4
 have c1 : wc.cell? ⟨g,1,none⟩ = some (.int .i64 (st.2 : Int)):=n4.rd.1.cell 1
 clear k0 N1 H3 HO e n4 HX HFl
 generalize st.2 = en at *
 go_upto_region 23 with fail
 by_cases he : en = 0
 ·subst he
  have HFi:=Lib.hid (fun W=>ref08_Fine W k p v K HS.out.2.2.1 (by have:=HS.out.1; omega))
  rw [fineR_eq k p v K HS.out.2.2.1] at HFi
  have HF : Hid (fineN k p v K = fineD (k,p,v,K)):=Lib.hid rfl
  rw [HF.out] at HFi
  have SZ : (Tryz.prog.info? 117).map (·.size) = some (nodeV k p v K).length:=by rw [nodeV_size HS.out.2.2.1]; exact info_node
  have HON:=nodeV_one k p v K
  have HSz:=Lib.hid (nodeV_size (k:=k) (p:=p) (v:=v) HS.out.2.2.1)
  have HEq : Hid (∀ w' (c : Nat),decN s = ((k,p,v,K),c) → Below w.heap.size w w' → P (.returned (.tuple #[.agg (nodeV k p v K).toArray,.int .i64 (c : Int)])) w'):=Lib.hid (fun w' c e h=>HP.out w' (k,p,v,K) c e h)
  have B5 : Hid (Blk wc nb 117 (nodeV k p v K).toArray):=Lib.hid N4.out.nd
  have HWr : Hid (fineD (k,p,v,K) = true → ∀ W,Calls Tryz.prog 123 #[.agg (nodeV k p v K).toArray] W (Ret W (.string ⟨(textD (k,p,v,K)).toArray⟩))):=Lib.hid (fun h W=>ref08_Written W k p v K HS.out.2.2.1 h)
  have HE1 : Hid (decN s = if fineD (k,p,v,K) = true ∧ textD (k,p,v,K) = s then ((k,p,v,K),0) else (zeroN,80)):=Lib.hid (by
   rw [HX2.out]
   have:=HS.out.2.2.1
   by_cases a : fineD (k,p,v,K) = true <;> by_cases b : textD (k,p,v,K) = s <;> simp [a,b,this])
  have N5:=Lib.hid N4.out.b
  clear HX2 HF N4
  generalize textD (k,p,v,K) = T at *
  generalize nodeV k p v K = NV at *
  have RA:=Blk.range0 B5.out
  cases hfd : fineD (k,p,v,K) with
  | false =>
   as_aux_lemma =>
   rw [hfd] at HFi
   have HE : Hid (decN s = (zeroN,80)):=Lib.hid (by rw [HE1.out,if_neg (by simp [hfd])])
   clear hfd HWr HE1
   go_wp2_with (first | ((with_reducible refine at_op 84 ?_); refine wpList_load_want (by rfl) 117 _ rfl nb 0 rfl _ _ RA Tryz.underlying117 rfl SZ ?_) | fail)
   refine (HFi.out _).mono ?_
   rintro e w6 ⟨rfl,hb6⟩
   have N6:=Lib.hid (N5.out.nxt hb6)
   clear RA hb6 HON c1
   have F5 : Hid (Live w w6 [(rb,117,#[.int .i64 0,.string ⟨#[]⟩,.string ⟨#[]⟩,.string ⟨#[]⟩,.string ⟨#[]⟩,.string ⟨#[]⟩,.string ⟨#[]⟩,.string ⟨#[]⟩,.string ⟨#[]⟩,.string ⟨#[]⟩,.string ⟨#[]⟩,.string ⟨#[]⟩,.string ⟨#[]⟩,.string ⟨#[]⟩,.string ⟨#[]⟩,.string ⟨#[]⟩,.string ⟨#[]⟩,.string ⟨#[]⟩,.string ⟨#[]⟩])]):=Lib.hid (Live.one (b1.out.2.1.nxt N6.out) b1.out.2.2 (b1.out.1.below N6.out b1.out.1.lt))
   have TH:=F5.out.there 0 19 rfl (by decide)
   have HON : (#[.int .i64 0,.string ⟨#[]⟩,.string ⟨#[]⟩,.string ⟨#[]⟩,.string ⟨#[]⟩,.string ⟨#[]⟩,.string ⟨#[]⟩,.string ⟨#[]⟩,.string ⟨#[]⟩,.string ⟨#[]⟩,.string ⟨#[]⟩,.string ⟨#[]⟩,.string ⟨#[]⟩,.string ⟨#[]⟩,.string ⟨#[]⟩,.string ⟨#[]⟩,.string ⟨#[]⟩,.string ⟨#[]⟩,.string ⟨#[]⟩] : Array Value).all (·.oneCell') = true:=by rw [zeros_eq]; exact nodeV_one _ _ _ _
   go_wp2_with (first | ((with_reducible refine at_op 94 ?_); refine wpList_build_eq rfl 117 _ rfl #[.int .i64 0,.string ⟨#[]⟩,.string ⟨#[]⟩,.string ⟨#[]⟩,.string ⟨#[]⟩,.string ⟨#[]⟩,.string ⟨#[]⟩,.string ⟨#[]⟩,.string ⟨#[]⟩,.string ⟨#[]⟩,.string ⟨#[]⟩,.string ⟨#[]⟩,.string ⟨#[]⟩,.string ⟨#[]⟩,.string ⟨#[]⟩,.string ⟨#[]⟩,.string ⟨#[]⟩,.string ⟨#[]⟩,.string ⟨#[]⟩] (by simp only [List.map_toArray,List.map_cons,List.map_nil]; kernel_rfl) ?_) | ((with_reducible refine at_put 94 ?_); refine wpList_store_mid rfl 117 _ _ rfl rb 0 #[.int .i64 0,.string ⟨#[]⟩,.string ⟨#[]⟩,.string ⟨#[]⟩,.string ⟨#[]⟩,.string ⟨#[]⟩,.string ⟨#[]⟩,.string ⟨#[]⟩,.string ⟨#[]⟩,.string ⟨#[]⟩,.string ⟨#[]⟩,.string ⟨#[]⟩,.string ⟨#[]⟩,.string ⟨#[]⟩,.string ⟨#[]⟩,.string ⟨#[]⟩,.string ⟨#[]⟩,.string ⟨#[]⟩,.string ⟨#[]⟩] rfl rfl TH info_node HON ?_; have F6:=Live.hall F5 0 (#[.int .i64 0,.string ⟨#[]⟩,.string ⟨#[]⟩,.string ⟨#[]⟩,.string ⟨#[]⟩,.string ⟨#[]⟩,.string ⟨#[]⟩,.string ⟨#[]⟩,.string ⟨#[]⟩,.string ⟨#[]⟩,.string ⟨#[]⟩,.string ⟨#[]⟩,.string ⟨#[]⟩,.string ⟨#[]⟩,.string ⟨#[]⟩,.string ⟨#[]⟩,.string ⟨#[]⟩,.string ⟨#[]⟩,.string ⟨#[]⟩] : Array Value).toList rfl rfl; generalize World.setCells _ rb 0 _ = W6 at F6 ⊢; have ld : (loadVar 117 ⟨rb,0,none⟩).run Tryz.prog W6 = .ok (.agg #[.int .i64 0,.string ⟨#[]⟩,.string ⟨#[]⟩,.string ⟨#[]⟩,.string ⟨#[]⟩,.string ⟨#[]⟩,.string ⟨#[]⟩,.string ⟨#[]⟩,.string ⟨#[]⟩,.string ⟨#[]⟩,.string ⟨#[]⟩,.string ⟨#[]⟩,.string ⟨#[]⟩,.string ⟨#[]⟩,.string ⟨#[]⟩,.string ⟨#[]⟩,.string ⟨#[]⟩,.string ⟨#[]⟩,.string ⟨#[]⟩]) W6:=run_loadVar_mid (P:=Tryz.prog) W6 rb 0 117 (#[.int .i64 0,.string ⟨#[]⟩,.string ⟨#[]⟩,.string ⟨#[]⟩,.string ⟨#[]⟩,.string ⟨#[]⟩,.string ⟨#[]⟩,.string ⟨#[]⟩,.string ⟨#[]⟩,.string ⟨#[]⟩,.string ⟨#[]⟩,.string ⟨#[]⟩,.string ⟨#[]⟩,.string ⟨#[]⟩,.string ⟨#[]⟩,.string ⟨#[]⟩,.string ⟨#[]⟩,.string ⟨#[]⟩,.string ⟨#[]⟩] : Array Value).toList _ (Blk.range0 (F6.out.blk 0 rfl)) Tryz.underlying117 rfl info_node; clear TH))
   have HF : P (.returned (.tuple #[.agg #[.int .i64 0,.string ⟨#[]⟩,.string ⟨#[]⟩,.string ⟨#[]⟩,.string ⟨#[]⟩,.string ⟨#[]⟩,.string ⟨#[]⟩,.string ⟨#[]⟩,.string ⟨#[]⟩,.string ⟨#[]⟩,.string ⟨#[]⟩,.string ⟨#[]⟩,.string ⟨#[]⟩,.string ⟨#[]⟩,.string ⟨#[]⟩,.string ⟨#[]⟩,.string ⟨#[]⟩,.string ⟨#[]⟩,.string ⟨#[]⟩],.int .i64 80])) W6:=HP.out W6 zeroN 80 HE.out F6.out.b
   exact ⟨rfl,_,results_cell2 rfl rfl ld rfl,HF⟩
  | true =>
   as_aux_lemma =>
   rw [hfd] at HFi
   have HW:=Lib.hid (HWr.out hfd)
   rw [hfd] at HE1
   clear hfd HWr
   go_wp2_with (first | ((with_reducible refine at_op 84 ?_); refine wpList_load_want (by rfl) 117 _ rfl nb 0 rfl _ _ RA Tryz.underlying117 rfl SZ ?_) | fail)
   refine (HFi.out _).mono ?_
   rintro e w6 ⟨rfl,hb6⟩
   have N6:=Lib.hid (N5.out.nxt hb6)
   have B6:=Lib.hid (B5.out.below hb6 B5.out.lt)
   have RA6:=Blk.range0 B6.out
   clear RA hb6 c1
   go_wp2_with (first | ((with_reducible refine at_op 89 ?_); refine wpList_load_want (by rfl) 117 _ rfl nb 0 rfl _ _ RA6 Tryz.underlying117 rfl SZ ?_) | fail)
   refine (HW.out _).mono ?_
   rintro e w7 ⟨rfl,hb7⟩
   have N7:=Lib.hid (N6.out.nxt hb7)
   have B7:=Lib.hid (B6.out.below hb7 B6.out.lt)
   have RA7:=Blk.range0 B7.out
   clear RA6 hb7
   by_cases hT : T = s
   ·have HE : Hid (decN s = ((k,p,v,K),0)):=Lib.hid (by rw [HE1.out,if_pos ⟨trivial,hT⟩])
    subst hT
    have hT1 : (T == T) = true:=by simp
    have F7 : Hid (Live w w7 [(rb,117,#[.int .i64 0,.string ⟨#[]⟩,.string ⟨#[]⟩,.string ⟨#[]⟩,.string ⟨#[]⟩,.string ⟨#[]⟩,.string ⟨#[]⟩,.string ⟨#[]⟩,.string ⟨#[]⟩,.string ⟨#[]⟩,.string ⟨#[]⟩,.string ⟨#[]⟩,.string ⟨#[]⟩,.string ⟨#[]⟩,.string ⟨#[]⟩,.string ⟨#[]⟩,.string ⟨#[]⟩,.string ⟨#[]⟩,.string ⟨#[]⟩])]):=Lib.hid (Live.one (b1.out.2.1.nxt N7.out) b1.out.2.2 (b1.out.1.below N7.out b1.out.1.lt))
    have TH : w7.there rb 0 NV.toArray.size:=by
     rw [show NV.toArray.size = 19 by rw [List.size_toArray]; exact HSz.out]
     exact F7.out.there 0 19 rfl (by decide)
    have SZ2 : (Tryz.prog.info? 117).map (·.size) = some NV.toArray.size:=by rw [List.size_toArray]; exact SZ
    go_wp2_with (first | ((with_reducible refine at_op 95 ?_); refine wpList_load_want (by rfl) 117 _ rfl nb 0 rfl _ _ RA7 Tryz.underlying117 rfl SZ ?_) | ((with_reducible refine at_put 95 ?_); refine wpList_store_mid rfl 117 _ _ rfl rb 0 NV.toArray rfl rfl TH SZ2 HON ?_; have F8:=Live.hall F7 0 NV.toArray.toList rfl HSz.out.symm; generalize World.setCells _ rb 0 _ = W8 at F8 ⊢; have ld:=run_loadVar_mid (P:=Tryz.prog) W8 rb 0 117 NV.toArray.toList _ (Blk.range0 (F8.out.blk 0 rfl)) Tryz.underlying117 rfl SZ; clear TH SZ2))
    have HF:=HEq.out W8 0 HE.out F8.out.b
    exact ⟨rfl,_,results_cell2 rfl rfl ld rfl,HF⟩
   ·have HE : Hid (decN s = (zeroN,80)):=Lib.hid (by rw [HE1.out,if_neg (by simp [hT])])
    have hT1 : (T == s) = false:=by simp [hT]
    clear hT RA7 HON
    have F5 : Hid (Live w w7 [(rb,117,#[.int .i64 0,.string ⟨#[]⟩,.string ⟨#[]⟩,.string ⟨#[]⟩,.string ⟨#[]⟩,.string ⟨#[]⟩,.string ⟨#[]⟩,.string ⟨#[]⟩,.string ⟨#[]⟩,.string ⟨#[]⟩,.string ⟨#[]⟩,.string ⟨#[]⟩,.string ⟨#[]⟩,.string ⟨#[]⟩,.string ⟨#[]⟩,.string ⟨#[]⟩,.string ⟨#[]⟩,.string ⟨#[]⟩,.string ⟨#[]⟩])]):=Lib.hid (Live.one (b1.out.2.1.nxt N7.out) b1.out.2.2 (b1.out.1.below N7.out b1.out.1.lt))
    have TH:=F5.out.there 0 19 rfl (by decide)
    have HON : (#[.int .i64 0,.string ⟨#[]⟩,.string ⟨#[]⟩,.string ⟨#[]⟩,.string ⟨#[]⟩,.string ⟨#[]⟩,.string ⟨#[]⟩,.string ⟨#[]⟩,.string ⟨#[]⟩,.string ⟨#[]⟩,.string ⟨#[]⟩,.string ⟨#[]⟩,.string ⟨#[]⟩,.string ⟨#[]⟩,.string ⟨#[]⟩,.string ⟨#[]⟩,.string ⟨#[]⟩,.string ⟨#[]⟩,.string ⟨#[]⟩] : Array Value).all (·.oneCell') = true:=by rw [zeros_eq]; exact nodeV_one _ _ _ _
    go_wp2_with (first | ((with_reducible refine at_op 94 ?_); refine wpList_build_eq rfl 117 _ rfl #[.int .i64 0,.string ⟨#[]⟩,.string ⟨#[]⟩,.string ⟨#[]⟩,.string ⟨#[]⟩,.string ⟨#[]⟩,.string ⟨#[]⟩,.string ⟨#[]⟩,.string ⟨#[]⟩,.string ⟨#[]⟩,.string ⟨#[]⟩,.string ⟨#[]⟩,.string ⟨#[]⟩,.string ⟨#[]⟩,.string ⟨#[]⟩,.string ⟨#[]⟩,.string ⟨#[]⟩,.string ⟨#[]⟩,.string ⟨#[]⟩] (by simp only [List.map_toArray,List.map_cons,List.map_nil]; kernel_rfl) ?_) | ((with_reducible refine at_put 94 ?_); refine wpList_store_mid rfl 117 _ _ rfl rb 0 #[.int .i64 0,.string ⟨#[]⟩,.string ⟨#[]⟩,.string ⟨#[]⟩,.string ⟨#[]⟩,.string ⟨#[]⟩,.string ⟨#[]⟩,.string ⟨#[]⟩,.string ⟨#[]⟩,.string ⟨#[]⟩,.string ⟨#[]⟩,.string ⟨#[]⟩,.string ⟨#[]⟩,.string ⟨#[]⟩,.string ⟨#[]⟩,.string ⟨#[]⟩,.string ⟨#[]⟩,.string ⟨#[]⟩,.string ⟨#[]⟩] rfl rfl TH info_node HON ?_; have F6:=Live.hall F5 0 (#[.int .i64 0,.string ⟨#[]⟩,.string ⟨#[]⟩,.string ⟨#[]⟩,.string ⟨#[]⟩,.string ⟨#[]⟩,.string ⟨#[]⟩,.string ⟨#[]⟩,.string ⟨#[]⟩,.string ⟨#[]⟩,.string ⟨#[]⟩,.string ⟨#[]⟩,.string ⟨#[]⟩,.string ⟨#[]⟩,.string ⟨#[]⟩,.string ⟨#[]⟩,.string ⟨#[]⟩,.string ⟨#[]⟩,.string ⟨#[]⟩] : Array Value).toList rfl rfl; generalize World.setCells _ rb 0 _ = W6 at F6 ⊢; have ld : (loadVar 117 ⟨rb,0,none⟩).run Tryz.prog W6 = .ok (.agg #[.int .i64 0,.string ⟨#[]⟩,.string ⟨#[]⟩,.string ⟨#[]⟩,.string ⟨#[]⟩,.string ⟨#[]⟩,.string ⟨#[]⟩,.string ⟨#[]⟩,.string ⟨#[]⟩,.string ⟨#[]⟩,.string ⟨#[]⟩,.string ⟨#[]⟩,.string ⟨#[]⟩,.string ⟨#[]⟩,.string ⟨#[]⟩,.string ⟨#[]⟩,.string ⟨#[]⟩,.string ⟨#[]⟩,.string ⟨#[]⟩]) W6:=run_loadVar_mid (P:=Tryz.prog) W6 rb 0 117 (#[.int .i64 0,.string ⟨#[]⟩,.string ⟨#[]⟩,.string ⟨#[]⟩,.string ⟨#[]⟩,.string ⟨#[]⟩,.string ⟨#[]⟩,.string ⟨#[]⟩,.string ⟨#[]⟩,.string ⟨#[]⟩,.string ⟨#[]⟩,.string ⟨#[]⟩,.string ⟨#[]⟩,.string ⟨#[]⟩,.string ⟨#[]⟩,.string ⟨#[]⟩,.string ⟨#[]⟩,.string ⟨#[]⟩,.string ⟨#[]⟩] : Array Value).toList _ (Blk.range0 (F6.out.blk 0 rfl)) Tryz.underlying117 rfl info_node; clear TH))
    have HF : P (.returned (.tuple #[.agg #[.int .i64 0,.string ⟨#[]⟩,.string ⟨#[]⟩,.string ⟨#[]⟩,.string ⟨#[]⟩,.string ⟨#[]⟩,.string ⟨#[]⟩,.string ⟨#[]⟩,.string ⟨#[]⟩,.string ⟨#[]⟩,.string ⟨#[]⟩,.string ⟨#[]⟩,.string ⟨#[]⟩,.string ⟨#[]⟩,.string ⟨#[]⟩,.string ⟨#[]⟩,.string ⟨#[]⟩,.string ⟨#[]⟩,.string ⟨#[]⟩],.int .i64 80])) W6:=HP.out W6 zeroN 80 HE.out F6.out.b
    exact ⟨rfl,_,results_cell2 rfl rfl ld rfl,HF⟩
 ·as_aux_lemma =>
  have HE : Hid (decN s = (zeroN,80)):=Lib.hid (by rw [HX2.out,if_pos (.inl he)])
  have hen : ((en : Int) != 0) = true:=by simp; exact he
  clear HX2 he
  have F5 : Hid (Live w wc [(rb,117,#[.int .i64 0,.string ⟨#[]⟩,.string ⟨#[]⟩,.string ⟨#[]⟩,.string ⟨#[]⟩,.string ⟨#[]⟩,.string ⟨#[]⟩,.string ⟨#[]⟩,.string ⟨#[]⟩,.string ⟨#[]⟩,.string ⟨#[]⟩,.string ⟨#[]⟩,.string ⟨#[]⟩,.string ⟨#[]⟩,.string ⟨#[]⟩,.string ⟨#[]⟩,.string ⟨#[]⟩,.string ⟨#[]⟩,.string ⟨#[]⟩])]):=Lib.hid (Live.one (b1.out.2.1.nxt N4.out.b) b1.out.2.2 (b1.out.1.below N4.out.b b1.out.1.lt))
  have TH:=F5.out.there 0 19 rfl (by decide)
  have HON : (#[.int .i64 0,.string ⟨#[]⟩,.string ⟨#[]⟩,.string ⟨#[]⟩,.string ⟨#[]⟩,.string ⟨#[]⟩,.string ⟨#[]⟩,.string ⟨#[]⟩,.string ⟨#[]⟩,.string ⟨#[]⟩,.string ⟨#[]⟩,.string ⟨#[]⟩,.string ⟨#[]⟩,.string ⟨#[]⟩,.string ⟨#[]⟩,.string ⟨#[]⟩,.string ⟨#[]⟩,.string ⟨#[]⟩,.string ⟨#[]⟩] : Array Value).all (·.oneCell') = true:=by rw [zeros_eq]; exact nodeV_one _ _ _ _
  go_wp2_with (first | ((with_reducible refine at_op 94 ?_); refine wpList_build_eq rfl 117 _ rfl #[.int .i64 0,.string ⟨#[]⟩,.string ⟨#[]⟩,.string ⟨#[]⟩,.string ⟨#[]⟩,.string ⟨#[]⟩,.string ⟨#[]⟩,.string ⟨#[]⟩,.string ⟨#[]⟩,.string ⟨#[]⟩,.string ⟨#[]⟩,.string ⟨#[]⟩,.string ⟨#[]⟩,.string ⟨#[]⟩,.string ⟨#[]⟩,.string ⟨#[]⟩,.string ⟨#[]⟩,.string ⟨#[]⟩,.string ⟨#[]⟩] (by simp only [List.map_toArray,List.map_cons,List.map_nil]; kernel_rfl) ?_) | ((with_reducible refine at_put 94 ?_); refine wpList_store_mid rfl 117 _ _ rfl rb 0 #[.int .i64 0,.string ⟨#[]⟩,.string ⟨#[]⟩,.string ⟨#[]⟩,.string ⟨#[]⟩,.string ⟨#[]⟩,.string ⟨#[]⟩,.string ⟨#[]⟩,.string ⟨#[]⟩,.string ⟨#[]⟩,.string ⟨#[]⟩,.string ⟨#[]⟩,.string ⟨#[]⟩,.string ⟨#[]⟩,.string ⟨#[]⟩,.string ⟨#[]⟩,.string ⟨#[]⟩,.string ⟨#[]⟩,.string ⟨#[]⟩] rfl rfl TH info_node HON ?_; have F6:=Live.hall F5 0 (#[.int .i64 0,.string ⟨#[]⟩,.string ⟨#[]⟩,.string ⟨#[]⟩,.string ⟨#[]⟩,.string ⟨#[]⟩,.string ⟨#[]⟩,.string ⟨#[]⟩,.string ⟨#[]⟩,.string ⟨#[]⟩,.string ⟨#[]⟩,.string ⟨#[]⟩,.string ⟨#[]⟩,.string ⟨#[]⟩,.string ⟨#[]⟩,.string ⟨#[]⟩,.string ⟨#[]⟩,.string ⟨#[]⟩,.string ⟨#[]⟩] : Array Value).toList rfl rfl; generalize World.setCells _ rb 0 _ = W6 at F6 ⊢; have ld : (loadVar 117 ⟨rb,0,none⟩).run Tryz.prog W6 = .ok (.agg #[.int .i64 0,.string ⟨#[]⟩,.string ⟨#[]⟩,.string ⟨#[]⟩,.string ⟨#[]⟩,.string ⟨#[]⟩,.string ⟨#[]⟩,.string ⟨#[]⟩,.string ⟨#[]⟩,.string ⟨#[]⟩,.string ⟨#[]⟩,.string ⟨#[]⟩,.string ⟨#[]⟩,.string ⟨#[]⟩,.string ⟨#[]⟩,.string ⟨#[]⟩,.string ⟨#[]⟩,.string ⟨#[]⟩,.string ⟨#[]⟩]) W6:=run_loadVar_mid (P:=Tryz.prog) W6 rb 0 117 (#[.int .i64 0,.string ⟨#[]⟩,.string ⟨#[]⟩,.string ⟨#[]⟩,.string ⟨#[]⟩,.string ⟨#[]⟩,.string ⟨#[]⟩,.string ⟨#[]⟩,.string ⟨#[]⟩,.string ⟨#[]⟩,.string ⟨#[]⟩,.string ⟨#[]⟩,.string ⟨#[]⟩,.string ⟨#[]⟩,.string ⟨#[]⟩,.string ⟨#[]⟩,.string ⟨#[]⟩,.string ⟨#[]⟩,.string ⟨#[]⟩] : Array Value).toList _ (Blk.range0 (F6.out.blk 0 rfl)) Tryz.underlying117 rfl info_node; clear TH))
  have HF : P (.returned (.tuple #[.agg #[.int .i64 0,.string ⟨#[]⟩,.string ⟨#[]⟩,.string ⟨#[]⟩,.string ⟨#[]⟩,.string ⟨#[]⟩,.string ⟨#[]⟩,.string ⟨#[]⟩,.string ⟨#[]⟩,.string ⟨#[]⟩,.string ⟨#[]⟩,.string ⟨#[]⟩,.string ⟨#[]⟩,.string ⟨#[]⟩,.string ⟨#[]⟩,.string ⟨#[]⟩,.string ⟨#[]⟩,.string ⟨#[]⟩,.string ⟨#[]⟩],.int .i64 80])) W6:=HP.out W6 zeroN 80 HE.out F6.out.b
  exact ⟨rfl,_,results_cell2 rfl rfl ld rfl,HF⟩
end Go.Proofs.YtomnlhbioijfhaaGreatDoor
