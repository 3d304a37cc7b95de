import Derived.Test.YtnelhjfjkkdoaaaGreatDoorJ24
import Derived.Test.YtnelhjfjkkdoaaaGreatDoorJ26
import Derived.Deep.DeepCutAuto
set_option linter.unusedSimpArgs false
set_option linter.unusedVariables false
namespace Go.Proofs.YtnelhjfjkkdoaaaGreatDoor
open Go.RowKit Go.Instr
attribute [local go_sem] ba_get ByteArray.mk_append_mk
attribute [local go_sem ↓] Go.wp_at_zero Go.wp_at_succ
theorem grown_of {w W W' : World} {wb : Nat} (hb : Below w.heap.size w W) (hg : W.grownBy W' (some wb)) : w.grownBy W' (some wb):=(only_of_below hb (some wb)).trans hg
theorem run_add64 (a b : Nat) (h : a + b ≤ 9000000000000) : IntKind.i64.wrap ((a : Int) + (b : Int)) = ((a + b : Nat) : Int):=by
 rw [show (a : Int) + (b : Int) = ((a + b : Nat) : Int) by omega]
 exact IntWalk.i64_in _ (by omega)
set_option maxRecDepth 100000 in
set_option maxHeartbeats 4000000 in
theorem work_move (w : World) (wb : Nat) (t : Trie.T) (h : WorkP w wb t 0) (hn : Trie.count t < 1024) (hT : Tbl w) (fr dt : List UInt8) (f tt : Nat × Nat) (hf : f.1 ≤ Ex.maxA ∧ f.2 ≤ Ex.maxA) (hd : Ex.nameW dt = true) (htt : Ex.acc t dt = some tt)
  (kd sq : Int) (am : Nat) (h1 : 1 ≤ am) (h2 : am ≤ Ex.maxA) (ky vl : List UInt8) (mm : List Pw.Mem) (A : Option Addr) (c : Nat) (hk : kd = 1) :
  Calls Tryz.prog 191 #[.pointer (some ⟨wb,0,none⟩),.agg #[.string ⟨fr.toArray⟩,.int .i64 (f.1 : Int),.int .i64 (f.2 : Int)],.agg #[.int .i64 kd,.string ⟨fr.toArray⟩,.int .i64 sq,.string ⟨dt.toArray⟩,.int .i64 (am : Int),.string ⟨ky.toArray⟩,.string ⟨vl.toArray⟩,.slice A mm.length c]] w
   (WkEnd w wb (Ex.kindW t ⟨kd,fr,sq,dt,(am : Int),ky,vl,mm⟩ f tt).1 (Ex.kindW t ⟨kd,fr,sq,dt,(am : Int),ky,vl,mm⟩ f tt).2.1):=by
 have hX : Ex.kindW t ⟨kd,fr,sq,dt,(am : Int),ky,vl,mm⟩ f tt = if (f.1 : Int) < (am : Int) then (t,161,0)
  else if dt = fr then (t,0,f.1)
  else if (1099511627776 : Int) - (am : Int) < tt.1 then (t,1,0)
  else (Trie.put t (Nib.of (Ex.aKey dt)) (Ex.writA (tt.1 + am,tt.2)),0,f.1 - am):=by
  rw [Ex.kindW_1 (by exact hk)]
  simp only [Int.toNat_natCast]
 have HP : Hid (∀ t' (c' z : Nat) w',Ex.kindW t ⟨kd,fr,sq,dt,(am : Int),ky,vl,mm⟩ f tt = (t',c',z) → WorkP w' wb t' c' → w.grownBy w' (some wb) → WkEnd w wb (Ex.kindW t ⟨kd,fr,sq,dt,(am : Int),ky,vl,mm⟩ f tt).1 (Ex.kindW t ⟨kd,fr,sq,dt,(am : Int),ky,vl,mm⟩ f tt).2.1 (.returned (.tuple #[])) w'):=Lib.hid (fun t' c' z w' e a b=>by rw [e]; exact ⟨rfl,a,b⟩)
 generalize WkEnd w wb (Ex.kindW t ⟨kd,fr,sq,dt,(am : Int),ky,vl,mm⟩ f tt).1 (Ex.kindW t ⟨kd,fr,sq,dt,(am : Int),ky,vl,mm⟩ f tt).2.1 = P at HP ⊢
 generalize Ex.kindW t ⟨kd,fr,sq,dt,(am : Int),ky,vl,mm⟩ f tt = X at *
 have HX:=Lib.hid hX
 have hdl:=Ex.nameW_len hd
 have hle:=Ex.acc_le htt
 have HAc:=Lib.hid (fun W v (hW : TrieP W t v)=>exec_Account W t v hW dt (by omega))
 unfold accW at HAc
 rw [hd,htt,if_pos rfl] at HAc
 have HW0:=Lib.hid h
 have HSv:=Lib.hid (fun W (hW : Below w.heap.size w W) (k1 : tt.1 + am ≤ 2000000000000)=>work_save_ok W wb t (h.next hW) hn (hT.next hW) dt hdl.2 (tt.1 + am) tt.2 k1 (by unfold Ex.maxA at hle; omega))
 obtain ⟨f1,f2⟩:=f
 obtain ⟨a1,a2⟩:=tt
 simp only at hX HX hf hle HSv HAc ⊢
 unfold Ex.maxA at hf hle h2
 have HLe:=Lib.hid (And.intro hf (And.intro hle (And.intro h1 h2)))
 clear hX hdl hd htt h hn hT hk
 go_enter Tryz.func191,Tryz.ntmps191
 go_upto_region 1 with fail
 obtain ⟨ab,hab⟩ : ∃ ab,w.heap.size = ab:=⟨_,rfl⟩
 obtain ⟨xb,hxb⟩ : ∃ xb,w.heap.size + 1 = xb:=⟨_,rfl⟩
 have F0:=Live.ha (Live.ha (Lib.hid (Live.start w)) #[.string ⟨fr.toArray⟩,.int .i64 (f1 : Int),.int .i64 (f2 : Int)] 62) #[.int .i64 kd,.string ⟨fr.toArray⟩,.int .i64 sq,.string ⟨dt.toArray⟩,.int .i64 (am : Int),.string ⟨ky.toArray⟩,.string ⟨vl.toArray⟩,.slice A mm.length c] 80
 rw [show (w.alloc (.cells #[.string ⟨fr.toArray⟩,.int .i64 (f1 : Int),.int .i64 (f2 : Int)] 62)).heap.size = w.heap.size + 1 from by show (w.heap.push _).size = _; exact Array.size_push _] at F0
 rw [hxb,hab] at F0 ⊢
 generalize (w.alloc (.cells #[.string ⟨fr.toArray⟩,.int .i64 (f1 : Int),.int .i64 (f2 : Int)] 62)).alloc (.cells #[.int .i64 kd,.string ⟨fr.toArray⟩,.int .i64 sq,.string ⟨dt.toArray⟩,.int .i64 (am : Int),.string ⟨ky.toArray⟩,.string ⟨vl.toArray⟩,.slice A mm.length c] 80) = W0 at F0 ⊢
 have HNe : Hid (wb < w.heap.size):=Lib.hid HW0.out.lt
 clear hab hxb
 have k1_0 : W0.cell? ⟨ab,0,none⟩ = some (.string ⟨fr.toArray⟩):=F0.out.cell 1 0 rfl rfl; have k1_1 : W0.cell? ⟨ab,1,none⟩ = some (.int .i64 (f1 : Int)):=F0.out.cell 1 1 rfl rfl; have k1_2 : W0.cell? ⟨ab,2,none⟩ = some (.int .i64 (f2 : Int)):=F0.out.cell 1 2 rfl rfl
 have k0_0 : W0.cell? ⟨xb,0,none⟩ = some (.int .i64 kd):=F0.out.cell 0 0 rfl rfl; have k0_1 : W0.cell? ⟨xb,1,none⟩ = some (.string ⟨fr.toArray⟩):=F0.out.cell 0 1 rfl rfl; have k0_2 : W0.cell? ⟨xb,2,none⟩ = some (.int .i64 sq):=F0.out.cell 0 2 rfl rfl; have k0_3 : W0.cell? ⟨xb,3,none⟩ = some (.string ⟨dt.toArray⟩):=F0.out.cell 0 3 rfl rfl; have k0_4 : W0.cell? ⟨xb,4,none⟩ = some (.int .i64 (am : Int)):=F0.out.cell 0 4 rfl rfl; have k0_5 : W0.cell? ⟨xb,5,none⟩ = some (.string ⟨ky.toArray⟩):=F0.out.cell 0 5 rfl rfl; have k0_6 : W0.cell? ⟨xb,6,none⟩ = some (.string ⟨vl.toArray⟩):=F0.out.cell 0 6 rfl rfl; have k0_7 : W0.cell? ⟨xb,7,none⟩ = some (.slice A mm.length c):=F0.out.cell 0 7 rfl rfl
 by_cases g1 : (f1 : Int) < (am : Int)
 ·have hz : X = (t,161,0):=by rw [HX.out,if_pos g1]
  have HZ:=Lib.hid hz
  obtain ⟨v,hB,hK⟩:=HW0.out.next F0.out.b
  have HB:=Lib.hid (And.intro hB hK)
  have b1 : W0.frozen? ⟨wb,1,none⟩ = false:=hB.frozen 1
  have k1 : W0.cell? ⟨wb,1,none⟩ = some (.int .i64 0):=hB.cell 1
  clear hB hK hz HX HSv HAc
  go_wp2_with fail
  go_end0
  exact HP.out t 161 0 _ HZ.out (WorkP.set1 HB.out.1 HB.out.2) (grown_of F0.out.b (grown_cell (World.grownBy.refl W0 _) 1 _))
 have g1' : ((f1 : Int) < (am : Int)) = False:=by simp; omega
 have HX:=Lib.hid (HX.out.trans (if_neg g1))
 by_cases g2 : dt = fr
 ·have hz : X = (t,0,f1):=by rw [HX.out,if_pos g2]
  have HZ:=Lib.hid hz
  have g2b : (dt == fr) = true:=by simp [g2]
  clear hz HX HSv HAc g1
  go_wp2_with fail
  go_end0
  exact HP.out t 0 f1 _ HZ.out (HW0.out.next F0.out.b) (only_of_below F0.out.b (some wb))
 have g2b : (dt == fr) = false:=by rw [beq_eq_false_iff_ne]; exact g2
 have HX:=Lib.hid (HX.out.trans (if_neg g2))
 clear g1 g2
 obtain ⟨v,hB,hK⟩:=id HW0.out
 have HKk:=Lib.hid hK
 have KW:=Lib.hid (show w.cell? ⟨wb,0,none⟩ = some v from hB.cell 0)
 obtain ⟨_,vb,vx,rfl,_⟩:=id hK
 clear hB hK
 go_upto_region 4 with fail
 clear k0_0 k0_1 k0_2 k0_3 k0_4 k0_5 k0_6 k0_7 k1_0 k1_1 k1_2
 go_cut [6] (fun s6 wx => ∃ tb,s6 = .pointer (some ⟨tb,0,none⟩) ∧ Live w wx [(tb,62,#[.string ⟨dt.toArray⟩,.int .i64 (a1 : Int),.int .i64 (a2 : Int)]),(xb,80,#[.int .i64 kd,.string ⟨fr.toArray⟩,.int .i64 sq,.string ⟨dt.toArray⟩,.int .i64 (am : Int),.string ⟨ky.toArray⟩,.string ⟨vl.toArray⟩,.slice A mm.length c]),(ab,62,#[.string ⟨fr.toArray⟩,.int .i64 (f1 : Int),.int .i64 (f2 : Int)])])
 case first =>
  clear HX HSv HLe g1' g2b
  refine wp_region_noPanic ?_
  have FQ : Hid (Live w W0.drew [(xb,80,#[.int .i64 kd,.string ⟨fr.toArray⟩,.int .i64 sq,.string ⟨dt.toArray⟩,.int .i64 (am : Int),.string ⟨ky.toArray⟩,.string ⟨vl.toArray⟩,.slice A mm.length c]),(ab,62,#[.string ⟨fr.toArray⟩,.int .i64 (f1 : Int),.int .i64 (f2 : Int)])]):=Lib.hid (Live.drew F0.out 1)
  refine wp_region_held_drew (S:=fun w'=>w'.cell? ⟨wb,0,none⟩ = some (.pointer (some ⟨vb,0,none⟩)) ∧ w'.cell? ⟨xb,3,none⟩ = some (.string ⟨dt.toArray⟩)) (by kernel_rfl) ⟨(FQ.out.b.cell (p:=⟨wb,0,none⟩) HNe.out).trans KW.out,FQ.out.cell 0 3 rfl rfl⟩ (fun hHeld => ?_)
  generalize W0.drew = W1 at FQ hHeld ⊢
  clear F0
  refine wpAnyH_take (i:=0) (oi:=⟨some 22,_,_,_,_,_⟩) (v := ?_) rfl (by kernel_rfl) (by kernel_rfl) (by kernel_rfl) (fun _ _ _ h=>h) (Or.inl ⟨by rfl, ?_⟩) (by assumption) ?_
  rotate_left
  ·intro w hSw
   obtain ⟨q0,q1⟩:=hSw
   go_simp
   first | done | with_reducible rfl
  try simp only [Act.put,List.setIfInBounds_toArray,List.set_cons_zero,List.set_cons_succ]
  refine wpAnyH_take (i:=1) (oi:=⟨some 23,_,_,_,_,_⟩) (v := ?_) rfl (by kernel_rfl) (by kernel_rfl) (by kernel_rfl) (fun _ _ _ h=>h) (Or.inl ⟨by rfl, ?_⟩) (by assumption) ?_
  rotate_left
  ·intro w hSw
   obtain ⟨q0,q1⟩:=hSw
   go_simp
   first | done | with_reducible rfl
  try simp only [Act.put,List.setIfInBounds_toArray,List.set_cons_zero,List.set_cons_succ]
  refine wpAnyH_take (i:=2) (oi:=⟨some 24,_,_,_,_,_⟩) (v := ?_) rfl (by kernel_rfl) (by kernel_rfl) (by kernel_rfl) (fun _ _ _ h=>h) (Or.inl ⟨by rfl, ?_⟩) (by assumption) ?_
  rotate_left
  ·intro w hSw
   obtain ⟨q0,q1⟩:=hSw
   go_simp
   first | done | with_reducible rfl
  try simp only [Act.put,List.setIfInBounds_toArray,List.set_cons_zero,List.set_cons_succ]
  refine wpAnyH_take (i:=3) (oi:=⟨some 25,_,_,_,_,_⟩) (v := ?_) rfl (by kernel_rfl) (by kernel_rfl) (by kernel_rfl) (fun _ _ _ h=>h) (Or.inl ⟨by rfl, ?_⟩) (by assumption) ?_
  rotate_left
  ·intro w hSw
   obtain ⟨q0,q1⟩:=hSw
   go_simp
   first | done | with_reducible rfl
  try simp only [Act.put,List.setIfInBounds_toArray,List.set_cons_zero,List.set_cons_succ]
  refine wpAnyH_take (i:=4) (oi:=⟨some 26,_,_,_,_,_⟩) (v := ?_) rfl (by kernel_rfl) (by kernel_rfl) (by kernel_rfl) (fun _ _ _ h=>h) (Or.inl ⟨by rfl, ?_⟩) (by assumption) ?_
  rotate_left
  ·intro w hSw
   obtain ⟨q0,q1⟩:=hSw
   go_simp
   first | done | with_reducible rfl
  try simp only [Act.put,List.setIfInBounds_toArray,List.set_cons_zero,List.set_cons_succ]
  refine wpAnyH_take (i:=5) (oi:=⟨some 27,_,_,_,_,_⟩) (v := ?_) rfl (by kernel_rfl) (by kernel_rfl) (by kernel_rfl) (fun _ _ _ h=>h) (Or.inl ⟨by rfl, ?_⟩) (by assumption) ?_
  rotate_left
  ·intro w hSw
   obtain ⟨q0,q1⟩:=hSw
   go_simp
   first | done | with_reducible rfl
  try simp only [Act.put,List.setIfInBounds_toArray,List.set_cons_zero,List.set_cons_succ]
  refine wpAnyH_ready (rs := [6,10]) (by kernel_rfl) (by simp) ?_
  refine AllReadyH.cons rfl (fun K hK => ?_) (AllReadyH.cons rfl (fun K hK => ?_) AllReadyH.nil)
  ·skip
   go_simp
   refine (HAc.out _ _ (HKk.out.next FQ.out.b)).mono ?_
   rintro e W2 ⟨rfl,hb⟩
   have F2:=Live.hb FQ hb
   clear hb
   refine hK.out _ _ ⟨(F2.out.b.cell (p:=⟨wb,0,none⟩) HNe.out).trans KW.out,F2.out.cell 0 3 rfl rfl⟩ (fun hHeld => ?_)
   clear hK
   try simp only [Act.put,List.setIfInBounds_toArray,List.set_cons_zero,List.set_cons_succ]
   refine wpAnyH_take (i:=7) (oi:=⟨some 21,_,_,_,_,_⟩) (v := ?_) rfl (by kernel_rfl) (by kernel_rfl) (by kernel_rfl) (fun _ _ _ h=>h) (Or.inl ⟨by rfl, ?_⟩) (by assumption) ?_
   rotate_left
   ·intro w hSw
    obtain ⟨q0,q1⟩:=hSw
    go_simp
    first | done | with_reducible rfl
   try simp only [Act.put,List.setIfInBounds_toArray,List.set_cons_zero,List.set_cons_succ]
   refine wpAnyH_take (i:=8) (oi:=⟨some 29,_,_,_,_,_⟩) (v := ?_) rfl (by kernel_rfl) (by kernel_rfl) (by kernel_rfl) (fun _ _ _ h=>h) (Or.inl ⟨by rfl, ?_⟩) (by assumption) ?_
   rotate_left
   ·intro w hSw
    obtain ⟨q0,q1⟩:=hSw
    go_simp
    first | done | with_reducible rfl
   try simp only [Act.put,List.setIfInBounds_toArray,List.set_cons_zero,List.set_cons_succ]
   refine wpAnyH_take (i:=9) (oi:=⟨some 30,_,_,_,_,_⟩) (v := ?_) rfl (by kernel_rfl) (by kernel_rfl) (by kernel_rfl) (fun _ _ _ h=>h) (Or.inl ⟨by rfl, ?_⟩) (by assumption) ?_
   rotate_left
   ·intro w hSw
    obtain ⟨q0,q1⟩:=hSw
    go_simp
    first | done | with_reducible rfl
   try simp only [Act.put,List.setIfInBounds_toArray,List.set_cons_zero,List.set_cons_succ]
   refine wpAnyH_ready (rs := [10]) (by kernel_rfl) (by simp) ?_
   refine AllReadyH.cons rfl (fun K hK => ?_) AllReadyH.nil
   go_simp
   have F3:=Live.ha F2 #[.string ⟨#[]⟩,.int .i64 0,.int .i64 0] 62
   refine hK.out _ _ ⟨(F3.out.b.cell (p:=⟨wb,0,none⟩) HNe.out).trans KW.out,F3.out.cell 1 3 rfl rfl⟩ (fun hHeld => ?_)
   clear hK
   try simp only [Act.put,List.setIfInBounds_toArray,List.set_cons_zero,List.set_cons_succ]
   generalize W2.alloc (.cells #[.string ⟨#[]⟩,.int .i64 0,.int .i64 0] 62) = W3 at F3 hHeld ⊢
   generalize W2.heap.size = tb at F3 ⊢
   refine wpAnyH_ready (rs := [11]) (by kernel_rfl) (by simp) ?_
   refine AllReadyH.cons rfl (fun K hK => ?_) AllReadyH.nil
   have e0 : W3.cell? ⟨tb,0,none⟩ = some (.string ⟨#[]⟩):=F3.out.cell 0 0 rfl rfl
   have e1 : W3.cell? ⟨tb,1,none⟩ = some (.int .i64 0):=F3.out.cell 0 1 rfl rfl
   have e2 : W3.cell? ⟨tb,2,none⟩ = some (.int .i64 0):=F3.out.cell 0 2 rfl rfl
   have z0 : W3.frozen? ⟨tb,0,none⟩ = false:=F3.out.frozen 0 0 rfl
   have z1 : W3.frozen? ⟨tb,1,none⟩ = false:=F3.out.frozen 0 1 rfl
   have z2 : W3.frozen? ⟨tb,2,none⟩ = false:=F3.out.frozen 0 2 rfl
   have FE : Hid (Live w (((W3.setCell ⟨tb,0,none⟩ (.string ⟨dt.toArray⟩)).setCell ⟨tb,1,none⟩ (.int .i64 (a1 : Int))).setCell ⟨tb,2,none⟩ (.int .i64 (a2 : Int))) [(tb,62,#[.string ⟨dt.toArray⟩,.int .i64 (a1 : Int),.int .i64 (a2 : Int)]),(xb,80,#[.int .i64 kd,.string ⟨fr.toArray⟩,.int .i64 sq,.string ⟨dt.toArray⟩,.int .i64 (am : Int),.string ⟨ky.toArray⟩,.string ⟨vl.toArray⟩,.slice A mm.length c]),(ab,62,#[.string ⟨fr.toArray⟩,.int .i64 (f1 : Int),.int .i64 (f2 : Int)])]):=Lib.hid (((F3.out.set 0 0 _ rfl).set 0 1 _ rfl).set 0 2 _ rfl)
   go_simp
   refine hK.out _ _ ⟨(FE.out.b.cell (p:=⟨wb,0,none⟩) HNe.out).trans KW.out,FE.out.cell 1 3 rfl rfl⟩ (fun hHeld => ?_)
   clear hK e0 e1 e2 z0 z1 z2
   try simp only [Act.put,List.setIfInBounds_toArray,List.set_cons_zero,List.set_cons_succ]
   refine wpAnyH_take (i:=12) (oi:=⟨some 7,_,_,_,_,_⟩) (v := ?_) rfl (by kernel_rfl) (by kernel_rfl) (by kernel_rfl) (fun _ _ _ h=>h) (Or.inl ⟨by rfl, ?_⟩) (by assumption) ?_
   rotate_left
   ·intro w hSw
    obtain ⟨q0,q1⟩:=hSw
    go_simp
    first | done | with_reducible rfl
   try simp only [Act.put,List.setIfInBounds_toArray,List.set_cons_zero,List.set_cons_succ]
   refine wpAnyH_done (by kernel_rfl) ?_ _
   refine NoPanic.normal ?_
   generalize ((W3.setCell ⟨tb,0,none⟩ _).setCell ⟨tb,1,none⟩ _).setCell ⟨tb,2,none⟩ _ = WE at FE ⊢
   go_wp2_with fail
   go_meet
   exact ⟨tb,rfl,FE.out⟩
  ·skip
   go_simp
   have F2:=Live.ha FQ #[.string ⟨#[]⟩,.int .i64 0,.int .i64 0] 62
   refine hK.out _ _ ⟨(F2.out.b.cell (p:=⟨wb,0,none⟩) HNe.out).trans KW.out,F2.out.cell 1 3 rfl rfl⟩ (fun hHeld => ?_)
   clear hK
   try simp only [Act.put,List.setIfInBounds_toArray,List.set_cons_zero,List.set_cons_succ]
   generalize W1.alloc (.cells #[.string ⟨#[]⟩,.int .i64 0,.int .i64 0] 62) = W2 at F2 hHeld ⊢
   generalize W1.heap.size = tb at F2 ⊢
   refine wpAnyH_ready (rs := [6]) (by kernel_rfl) (by simp) ?_
   refine AllReadyH.cons rfl (fun K hK => ?_) AllReadyH.nil
   go_simp
   refine (HAc.out _ _ (HKk.out.next F2.out.b)).mono ?_
   rintro e W3 ⟨rfl,hb⟩
   have F3:=Live.hb F2 hb
   clear hb
   refine hK.out _ _ ⟨(F3.out.b.cell (p:=⟨wb,0,none⟩) HNe.out).trans KW.out,F3.out.cell 1 3 rfl rfl⟩ (fun hHeld => ?_)
   clear hK
   try simp only [Act.put,List.setIfInBounds_toArray,List.set_cons_zero,List.set_cons_succ]
   refine wpAnyH_take (i:=7) (oi:=⟨some 21,_,_,_,_,_⟩) (v := ?_) rfl (by kernel_rfl) (by kernel_rfl) (by kernel_rfl) (fun _ _ _ h=>h) (Or.inl ⟨by rfl, ?_⟩) (by assumption) ?_
   rotate_left
   ·intro w hSw
    obtain ⟨q0,q1⟩:=hSw
    go_simp
    first | done | with_reducible rfl
   try simp only [Act.put,List.setIfInBounds_toArray,List.set_cons_zero,List.set_cons_succ]
   refine wpAnyH_take (i:=8) (oi:=⟨some 29,_,_,_,_,_⟩) (v := ?_) rfl (by kernel_rfl) (by kernel_rfl) (by kernel_rfl) (fun _ _ _ h=>h) (Or.inl ⟨by rfl, ?_⟩) (by assumption) ?_
   rotate_left
   ·intro w hSw
    obtain ⟨q0,q1⟩:=hSw
    go_simp
    first | done | with_reducible rfl
   try simp only [Act.put,List.setIfInBounds_toArray,List.set_cons_zero,List.set_cons_succ]
   refine wpAnyH_take (i:=9) (oi:=⟨some 30,_,_,_,_,_⟩) (v := ?_) rfl (by kernel_rfl) (by kernel_rfl) (by kernel_rfl) (fun _ _ _ h=>h) (Or.inl ⟨by rfl, ?_⟩) (by assumption) ?_
   rotate_left
   ·intro w hSw
    obtain ⟨q0,q1⟩:=hSw
    go_simp
    first | done | with_reducible rfl
   try simp only [Act.put,List.setIfInBounds_toArray,List.set_cons_zero,List.set_cons_succ]
   refine wpAnyH_ready (rs := [11]) (by kernel_rfl) (by simp) ?_
   refine AllReadyH.cons rfl (fun K hK => ?_) AllReadyH.nil
   have e0 : W3.cell? ⟨tb,0,none⟩ = some (.string ⟨#[]⟩):=F3.out.cell 0 0 rfl rfl
   have e1 : W3.cell? ⟨tb,1,none⟩ = some (.int .i64 0):=F3.out.cell 0 1 rfl rfl
   have e2 : W3.cell? ⟨tb,2,none⟩ = some (.int .i64 0):=F3.out.cell 0 2 rfl rfl
   have z0 : W3.frozen? ⟨tb,0,none⟩ = false:=F3.out.frozen 0 0 rfl
   have z1 : W3.frozen? ⟨tb,1,none⟩ = false:=F3.out.frozen 0 1 rfl
   have z2 : W3.frozen? ⟨tb,2,none⟩ = false:=F3.out.frozen 0 2 rfl
   have FE : Hid (Live w (((W3.setCell ⟨tb,0,none⟩ (.string ⟨dt.toArray⟩)).setCell ⟨tb,1,none⟩ (.int .i64 (a1 : Int))).setCell ⟨tb,2,none⟩ (.int .i64 (a2 : Int))) [(tb,62,#[.string ⟨dt.toArray⟩,.int .i64 (a1 : Int),.int .i64 (a2 : Int)]),(xb,80,#[.int .i64 kd,.string ⟨fr.toArray⟩,.int .i64 sq,.string ⟨dt.toArray⟩,.int .i64 (am : Int),.string ⟨ky.toArray⟩,.string ⟨vl.toArray⟩,.slice A mm.length c]),(ab,62,#[.string ⟨fr.toArray⟩,.int .i64 (f1 : Int),.int .i64 (f2 : Int)])]):=Lib.hid (((F3.out.set 0 0 _ rfl).set 0 1 _ rfl).set 0 2 _ rfl)
   go_simp
   refine hK.out _ _ ⟨(FE.out.b.cell (p:=⟨wb,0,none⟩) HNe.out).trans KW.out,FE.out.cell 1 3 rfl rfl⟩ (fun hHeld => ?_)
   clear hK e0 e1 e2 z0 z1 z2
   try simp only [Act.put,List.setIfInBounds_toArray,List.set_cons_zero,List.set_cons_succ]
   refine wpAnyH_take (i:=12) (oi:=⟨some 7,_,_,_,_,_⟩) (v := ?_) rfl (by kernel_rfl) (by kernel_rfl) (by kernel_rfl) (fun _ _ _ h=>h) (Or.inl ⟨by rfl, ?_⟩) (by assumption) ?_
   rotate_left
   ·intro w hSw
    obtain ⟨q0,q1⟩:=hSw
    go_simp
    first | done | with_reducible rfl
   try simp only [Act.put,List.setIfInBounds_toArray,List.set_cons_zero,List.set_cons_succ]
   refine wpAnyH_done (by kernel_rfl) ?_ _
   refine NoPanic.normal ?_
   generalize ((W3.setCell ⟨tb,0,none⟩ _).setCell ⟨tb,1,none⟩ _).setCell ⟨tb,2,none⟩ _ = WE at FE ⊢
   go_wp2_with fail
   go_meet
   exact ⟨tb,rfl,FE.out⟩
 case rest =>
 obtain ⟨tb,h6,h4⟩:=hcut
 subst h6
 rename World=>w4
 have F4:=Lib.hid h4
 clear h4 F0 HAc
 obtain ⟨hf,hle,h1,h2⟩:=HLe.out
 have hw : IntKind.i64.wrap (1099511627776 - (am : Int)) = 1099511627776 - (am : Int):=IntWalk.i64_in _ (by omega)
 have k0_0 : w4.cell? ⟨tb,0,none⟩ = some (.string ⟨dt.toArray⟩):=F4.out.cell 0 0 rfl rfl; have k0_1 : w4.cell? ⟨tb,1,none⟩ = some (.int .i64 (a1 : Int)):=F4.out.cell 0 1 rfl rfl; have k0_2 : w4.cell? ⟨tb,2,none⟩ = some (.int .i64 (a2 : Int)):=F4.out.cell 0 2 rfl rfl
 have k1_0 : w4.cell? ⟨xb,0,none⟩ = some (.int .i64 kd):=F4.out.cell 1 0 rfl rfl; have k1_1 : w4.cell? ⟨xb,1,none⟩ = some (.string ⟨fr.toArray⟩):=F4.out.cell 1 1 rfl rfl; have k1_2 : w4.cell? ⟨xb,2,none⟩ = some (.int .i64 sq):=F4.out.cell 1 2 rfl rfl; have k1_3 : w4.cell? ⟨xb,3,none⟩ = some (.string ⟨dt.toArray⟩):=F4.out.cell 1 3 rfl rfl; have k1_4 : w4.cell? ⟨xb,4,none⟩ = some (.int .i64 (am : Int)):=F4.out.cell 1 4 rfl rfl; have k1_5 : w4.cell? ⟨xb,5,none⟩ = some (.string ⟨ky.toArray⟩):=F4.out.cell 1 5 rfl rfl; have k1_6 : w4.cell? ⟨xb,6,none⟩ = some (.string ⟨vl.toArray⟩):=F4.out.cell 1 6 rfl rfl; have k1_7 : w4.cell? ⟨xb,7,none⟩ = some (.slice A mm.length c):=F4.out.cell 1 7 rfl rfl
 by_cases g3 : (1099511627776 : Int) - (am : Int) < (a1 : Int)
 ·have hz : X = (t,1,0):=by rw [HX.out,if_pos g3]
  have HZ:=Lib.hid hz
  obtain ⟨v,hB,hK⟩:=HW0.out.next F4.out.b
  have HB:=Lib.hid (And.intro hB hK)
  have b1 : w4.frozen? ⟨wb,1,none⟩ = false:=hB.frozen 1
  have k1 : w4.cell? ⟨wb,1,none⟩ = some (.int .i64 0):=hB.cell 1
  clear hB hK hz HX HSv HLe
  go_wp2_with fail
  go_end0
  exact HP.out t 1 0 _ HZ.out (WorkP.set1 HB.out.1 HB.out.2) (grown_of F4.out.b (grown_cell (World.grownBy.refl w4 _) 1 _))
 have g3' : ((1099511627776 : Int) - (am : Int) < (a1 : Int)) = False:=by simp; omega
 have hz : X = (Trie.put t (Nib.of (Ex.aKey dt)) (Ex.writA (a1 + am,a2)),0,f1 - am):=by rw [HX.out,if_neg g3]
 have HZ:=Lib.hid hz
 have hsum:=run_add64 a1 am (by omega)
 have HSm:=Lib.hid (show a1 + am ≤ 2000000000000 by omega)
 have b1 : w4.frozen? ⟨tb,1,none⟩ = false:=F4.out.frozen 0 1 rfl
 clear g3 hz HX HLe hf hle h1 h2
 go_upto_region 8 with fail
 have F5:=Live.hs F4 0 1 (.int .i64 ((a1 : Int) + (am : Int))) rfl
 simp only [List.set_cons_zero,List.setIfInBounds_toArray,List.set_cons_succ] at F5
 generalize w4.setCell ⟨tb,1,none⟩ _ = w5 at F5 ⊢
 rw [show (a1 : Int) + (am : Int) = ((a1 + am : Nat) : Int) by omega] at F5
 clear F4 k0_0 k0_1 k0_2 k1_0 k1_1 k1_2 k1_3 k1_4 k1_5 k1_6 k1_7 b1
 have k0_0 : w5.cell? ⟨tb,0,none⟩ = some (.string ⟨dt.toArray⟩):=F5.out.cell 0 0 rfl rfl; have k0_1 : w5.cell? ⟨tb,1,none⟩ = some (.int .i64 ((a1 + am : Nat) : Int)):=F5.out.cell 0 1 rfl rfl; have k0_2 : w5.cell? ⟨tb,2,none⟩ = some (.int .i64 (a2 : Int)):=F5.out.cell 0 2 rfl rfl
 go_wp2_with fail
 refine (HSv.out _ F5.out.b HSm.out).mono ?_
 rintro e w6 ⟨rfl,hk6,hg6⟩
 have K6:=Lib.hid (And.intro hk6 hg6)
 clear hk6 hg6
 go_wp2_with fail
 go_end0
 exact HP.out _ 0 _ _ HZ.out K6.out.1 (grown_of F5.out.b K6.out.2)
end Go.Proofs.YtnelhjfjkkdoaaaGreatDoor
