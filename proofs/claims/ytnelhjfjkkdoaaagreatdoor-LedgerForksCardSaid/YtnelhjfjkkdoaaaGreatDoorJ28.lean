import Derived.Test.YtnelhjfjkkdoaaaGreatDoorJ27
set_option linter.unusedSimpArgs false
set_option linter.unusedVariables false
namespace Go.Proofs.YtnelhjfjkkdoaaaGreatDoor
open Go.RowKit Go.Instr
attribute [local go_sem] ba_get ByteArray.mk_append_mk
attribute [local go_sem ↓] Go.wp_at_zero Go.wp_at_succ
def begW (t : Trie.T) (x : Ex.Tx) : (List UInt8 × Nat × Nat) × Nat :=
 if Ex.fineX x = false then (([],0,0),150) else
 match Ex.acc t x.frm,Ex.accTo t x with
 | some f,some tt=>if (f.2 : Int) ≠ x.seq ∨ f.2 = Ex.maxA then (([],0,0),160) else ((x.frm,f.1,f.2),0)
 | _,_=>(([],0,0),3)
set_option maxRecDepth 100000 in
set_option maxHeartbeats 4000000 in
theorem exec_begin (w : World) (t : Trie.T) (v : Value) (h : TrieP w t v) (kd : Int) (fr : List UInt8) (sq : Int) (dt : List UInt8) (am : Int) (ky vl : List UInt8) (mm : List Pw.Mem) (A : Option Addr) (c : Nat)
  (hfr : fr.length ≤ 9223372036854775807) (hdt : dt.length ≤ 9223372036854775807) (hky : ky.length ≤ 9223372036854775807) (hvl : vl.length ≤ 9223372036854775807) (hs : ∀ x ∈ mm,x.1.length ≤ 9223372036854775807) (HR : Reads w w.heap.size 2 A mm.length (mcells mm)) :
  Calls Tryz.prog 190 #[v,.agg #[.int .i64 kd,.string ⟨fr.toArray⟩,.int .i64 sq,.string ⟨dt.toArray⟩,.int .i64 am,.string ⟨ky.toArray⟩,.string ⟨vl.toArray⟩,.slice A mm.length c]] w (AccEnd w (begW t ⟨kd,fr,sq,dt,am,ky,vl,mm⟩)):=by
 have HP : Hid (∀ m (a q c : Nat) w',begW t ⟨kd,fr,sq,dt,am,ky,vl,mm⟩ = ((m,a,q),c) → Below w.heap.size w w' → AccEnd w (begW t ⟨kd,fr,sq,dt,am,ky,vl,mm⟩) (.returned (.tuple #[.agg #[.string ⟨m.toArray⟩,.int .i64 (a : Int),.int .i64 (q : Int)],.int .i64 (c : Int)])) w'):=Lib.hid (fun m a q c w' e h=>by rw [e]; exact ⟨rfl,h⟩)
 generalize AccEnd w (begW t ⟨kd,fr,sq,dt,am,ky,vl,mm⟩) = P at HP ⊢
 have HX : Hid (begW t ⟨kd,fr,sq,dt,am,ky,vl,mm⟩ = if Ex.fineX ⟨kd,fr,sq,dt,am,ky,vl,mm⟩ = false then (([],0,0),150) else
  match Ex.acc t fr,(if kd = 1 then Ex.acc t dt else some (0,0)) with
  | some f,some tt=>if (f.2 : Int) ≠ sq ∨ f.2 = Ex.maxA then (([],0,0),160) else ((fr,f.1,f.2),0)
  | _,_=>(([],0,0),3)):=Lib.hid rfl
 have HCk:=Lib.hid (fun W (hW : Below w.heap.size w W)=>tx_Check W kd fr sq dt am ky vl mm A c hfr hdt hky hvl hs ((HR.below hW).more hW.size))
 generalize begW t ⟨kd,fr,sq,dt,am,ky,vl,mm⟩ = X at *
 have HTr:=Lib.hid h
 obtain ⟨_,vb,vx,rfl,_⟩:=id h
 clear hs HR hky hvl h
 cases hx : Ex.fineX ⟨kd,fr,sq,dt,am,ky,vl,mm⟩ with
 | false =>
  rw [hx] at HX HCk
  have HE : Hid (X = (([],0,0),150)):=Lib.hid HX.out
  simp only [Bool.false_eq_true,if_false] at HCk
  clear HX hx hfr hdt
  go_enter Tryz.func190,Tryz.ntmps190
  go_upto_region 1 with fail
  have F0:=Live.ha (Live.ha (Lib.hid (Live.start w)) #[.int .i64 kd,.string ⟨fr.toArray⟩,.int .i64 sq,.string ⟨dt.toArray⟩,.int .i64 am,.string ⟨ky.toArray⟩,.string ⟨vl.toArray⟩,.slice A mm.length c] 80) #[.string ⟨#[]⟩,.int .i64 0,.int .i64 0] 62
  rw [show (w.alloc (.cells #[.int .i64 kd,.string ⟨fr.toArray⟩,.int .i64 sq,.string ⟨dt.toArray⟩,.int .i64 am,.string ⟨ky.toArray⟩,.string ⟨vl.toArray⟩,.slice A mm.length c] 80)).heap.size = w.heap.size + 1 from by show (w.heap.push _).size = _; exact Array.size_push _] at F0
  obtain ⟨rb,hrb⟩ : ∃ rb,w.heap.size + 1 = rb:=⟨_,rfl⟩
  obtain ⟨xb,hxb⟩ : ∃ xb,w.heap.size = xb:=⟨_,rfl⟩
  rw [hrb,hxb] at F0 ⊢
  generalize (w.alloc (.cells #[.int .i64 kd,.string ⟨fr.toArray⟩,.int .i64 sq,.string ⟨dt.toArray⟩,.int .i64 am,.string ⟨ky.toArray⟩,.string ⟨vl.toArray⟩,.slice A mm.length c] 80)).alloc (.cells #[.string ⟨#[]⟩,.int .i64 0,.int .i64 0] 62) = W0 at F0 ⊢
  clear hrb hxb
  have k1_0 : W0.cell? ⟨xb,0,none⟩ = some (.int .i64 kd):=F0.out.cell 1 0 rfl rfl; have k1_1 : W0.cell? ⟨xb,1,none⟩ = some (.string ⟨fr.toArray⟩):=F0.out.cell 1 1 rfl rfl; have k1_2 : W0.cell? ⟨xb,2,none⟩ = some (.int .i64 sq):=F0.out.cell 1 2 rfl rfl; have k1_3 : W0.cell? ⟨xb,3,none⟩ = some (.string ⟨dt.toArray⟩):=F0.out.cell 1 3 rfl rfl; have k1_4 : W0.cell? ⟨xb,4,none⟩ = some (.int .i64 am):=F0.out.cell 1 4 rfl rfl; have k1_5 : W0.cell? ⟨xb,5,none⟩ = some (.string ⟨ky.toArray⟩):=F0.out.cell 1 5 rfl rfl; have k1_6 : W0.cell? ⟨xb,6,none⟩ = some (.string ⟨vl.toArray⟩):=F0.out.cell 1 6 rfl rfl; have k1_7 : W0.cell? ⟨xb,7,none⟩ = some (.slice A mm.length c):=F0.out.cell 1 7 rfl rfl
  go_wp2_with fail
  refine (HCk.out _ F0.out.b).mono ?_
  rintro e w1 ⟨rfl,hb⟩
  have F1:=Live.hb F0 hb
  clear hb F0 k1_0 k1_1 k1_2 k1_3 k1_4 k1_5 k1_6 k1_7 HCk
  go_upto_region 3 with fail
  have k0_0 : w1.cell? ⟨rb,0,none⟩ = some (.string ⟨#[]⟩):=F1.out.cell 0 0 rfl rfl; have k0_1 : w1.cell? ⟨rb,1,none⟩ = some (.int .i64 0):=F1.out.cell 0 1 rfl rfl; have k0_2 : w1.cell? ⟨rb,2,none⟩ = some (.int .i64 0):=F1.out.cell 0 2 rfl rfl
  have f0_0 : w1.frozen? ⟨rb,0,none⟩ = false:=F1.out.frozen 0 0 rfl; have f0_1 : w1.frozen? ⟨rb,1,none⟩ = false:=F1.out.frozen 0 1 rfl; have f0_2 : w1.frozen? ⟨rb,2,none⟩ = false:=F1.out.frozen 0 2 rfl
  go_wp2_with fail
  have F9:=Lib.hid (((F1.out.set 0 0 (.string ⟨#[]⟩) rfl).set 0 1 (.int .i64 0) rfl).set 0 2 (.int .i64 0) rfl)
  simp only [List.set_cons_zero,List.setIfInBounds_toArray,List.set_cons_succ] at F9
  generalize ((w1.setCell ⟨rb,0,none⟩ (.string ⟨#[]⟩)).setCell ⟨rb,1,none⟩ (.int .i64 0)).setCell ⟨rb,2,none⟩ (.int .i64 0) = W9 at F9 ⊢
  have s0 : W9.cell? ⟨rb,0,none⟩ = some (.string ⟨#[]⟩):=F9.out.cell 0 0 rfl rfl
  have s1 : W9.cell? ⟨rb,1,none⟩ = some (.int .i64 0):=F9.out.cell 0 1 rfl rfl
  have s2 : W9.cell? ⟨rb,2,none⟩ = some (.int .i64 0):=F9.out.cell 0 2 rfl rfl
  (try simp only [Exit.inBlock,Exit.then])
  refine bodyPost_ret (v:=.tuple #[.agg #[.string ⟨#[]⟩,.int .i64 0,.int .i64 0],.int .i64 150]) (by simp [results,Tryz.results190,go_sem,s0,s1,s2]) rfl ?_
  exact HP.out [] 0 0 150 _ HE.out F9.out.b
 | true =>
 rw [hx] at HX HCk
 simp only [if_true] at HCk
 rw [if_neg (by decide)] at HX
 obtain ⟨n1,_,_,hk⟩:=Ex.fineX_spec hx
 simp only at n1 hk
 have HAf:=Lib.hid (fun W (hW : TrieP W t (.pointer (some ⟨vb,0,none⟩)))=>exec_Account W t (.pointer (some ⟨vb,0,none⟩)) hW fr (by have:=Ex.nameW_len n1; omega))
 unfold accW at HAf
 rw [n1,if_pos rfl] at HAf
 clear hx hfr
 cases hf : Ex.acc t fr with
 | none =>
  rw [hf] at HAf HX
  have HE : Hid (X = (([],0,0),3)):=Lib.hid HX.out
  clear HX hf hk n1 hdt
  go_enter Tryz.func190,Tryz.ntmps190
  go_upto_region 1 with fail
  have F0:=Live.ha (Live.ha (Lib.hid (Live.start w)) #[.int .i64 kd,.string ⟨fr.toArray⟩,.int .i64 sq,.string ⟨dt.toArray⟩,.int .i64 am,.string ⟨ky.toArray⟩,.string ⟨vl.toArray⟩,.slice A mm.length c] 80) #[.string ⟨#[]⟩,.int .i64 0,.int .i64 0] 62
  rw [show (w.alloc (.cells #[.int .i64 kd,.string ⟨fr.toArray⟩,.int .i64 sq,.string ⟨dt.toArray⟩,.int .i64 am,.string ⟨ky.toArray⟩,.string ⟨vl.toArray⟩,.slice A mm.length c] 80)).heap.size = w.heap.size + 1 from by show (w.heap.push _).size = _; exact Array.size_push _] at F0
  obtain ⟨rb,hrb⟩ : ∃ rb,w.heap.size + 1 = rb:=⟨_,rfl⟩
  obtain ⟨xb,hxb⟩ : ∃ xb,w.heap.size = xb:=⟨_,rfl⟩
  rw [hrb,hxb] at F0 ⊢
  generalize (w.alloc (.cells #[.int .i64 kd,.string ⟨fr.toArray⟩,.int .i64 sq,.string ⟨dt.toArray⟩,.int .i64 am,.string ⟨ky.toArray⟩,.string ⟨vl.toArray⟩,.slice A mm.length c] 80)).alloc (.cells #[.string ⟨#[]⟩,.int .i64 0,.int .i64 0] 62) = W0 at F0 ⊢
  clear hrb hxb
  have k1_0 : W0.cell? ⟨xb,0,none⟩ = some (.int .i64 kd):=F0.out.cell 1 0 rfl rfl; have k1_1 : W0.cell? ⟨xb,1,none⟩ = some (.string ⟨fr.toArray⟩):=F0.out.cell 1 1 rfl rfl; have k1_2 : W0.cell? ⟨xb,2,none⟩ = some (.int .i64 sq):=F0.out.cell 1 2 rfl rfl; have k1_3 : W0.cell? ⟨xb,3,none⟩ = some (.string ⟨dt.toArray⟩):=F0.out.cell 1 3 rfl rfl; have k1_4 : W0.cell? ⟨xb,4,none⟩ = some (.int .i64 am):=F0.out.cell 1 4 rfl rfl; have k1_5 : W0.cell? ⟨xb,5,none⟩ = some (.string ⟨ky.toArray⟩):=F0.out.cell 1 5 rfl rfl; have k1_6 : W0.cell? ⟨xb,6,none⟩ = some (.string ⟨vl.toArray⟩):=F0.out.cell 1 6 rfl rfl; have k1_7 : W0.cell? ⟨xb,7,none⟩ = some (.slice A mm.length c):=F0.out.cell 1 7 rfl rfl
  go_wp2_with fail
  refine (HCk.out _ F0.out.b).mono ?_
  rintro e w1 ⟨rfl,hb⟩
  have F1:=Live.hb F0 hb
  clear hb F0 k1_0 k1_1 k1_2 k1_3 k1_4 k1_5 k1_6 k1_7 HCk
  have k1_1 : w1.cell? ⟨xb,1,none⟩ = some (.string ⟨fr.toArray⟩):=F1.out.cell 1 1 rfl rfl
  go_wp2_with fail
  refine (HAf.out _ (HTr.out.next F1.out.b)).mono ?_
  rintro e w2 ⟨rfl,hb⟩
  have F2:=Live.hb F1 hb
  clear hb F1 k1_1 HAf
  go_upto_region 5 with fail
  have F3:=Live.ha F2 #[.string ⟨([] : List UInt8).toArray⟩,.int .i64 ((0 : Nat) : Int),.int .i64 ((0 : Nat) : Int)] 62
  generalize World.alloc w2 _ = w3 at F3 ⊢
  generalize w2.heap.size = fb at F3 ⊢
  clear F2
  have k2_0 : w3.cell? ⟨xb,0,none⟩ = some (.int .i64 kd):=F3.out.cell 2 0 rfl rfl
  go_upto_region 8 with fail
  have k1_0 : w3.cell? ⟨rb,0,none⟩ = some (.string ⟨#[]⟩):=F3.out.cell 1 0 rfl rfl; have k1_1 : w3.cell? ⟨rb,1,none⟩ = some (.int .i64 0):=F3.out.cell 1 1 rfl rfl; have k1_2 : w3.cell? ⟨rb,2,none⟩ = some (.int .i64 0):=F3.out.cell 1 2 rfl rfl
  have f1_0 : w3.frozen? ⟨rb,0,none⟩ = false:=F3.out.frozen 1 0 rfl; have f1_1 : w3.frozen? ⟨rb,1,none⟩ = false:=F3.out.frozen 1 1 rfl; have f1_2 : w3.frozen? ⟨rb,2,none⟩ = false:=F3.out.frozen 1 2 rfl
  go_wp2_with fail
  have F9:=Lib.hid (((F3.out.set 1 0 (.string ⟨#[]⟩) rfl).set 1 1 (.int .i64 0) rfl).set 1 2 (.int .i64 0) rfl)
  simp only [List.set_cons_zero,List.setIfInBounds_toArray,List.set_cons_succ] at F9
  generalize ((w3.setCell ⟨rb,0,none⟩ (.string ⟨#[]⟩)).setCell ⟨rb,1,none⟩ (.int .i64 0)).setCell ⟨rb,2,none⟩ (.int .i64 0) = W9 at F9 ⊢
  have s0 : W9.cell? ⟨rb,0,none⟩ = some (.string ⟨#[]⟩):=F9.out.cell 1 0 rfl rfl
  have s1 : W9.cell? ⟨rb,1,none⟩ = some (.int .i64 0):=F9.out.cell 1 1 rfl rfl
  have s2 : W9.cell? ⟨rb,2,none⟩ = some (.int .i64 0):=F9.out.cell 1 2 rfl rfl
  (try simp only [Exit.inBlock,Exit.then])
  refine bodyPost_ret (v:=.tuple #[.agg #[.string ⟨#[]⟩,.int .i64 0,.int .i64 0],.int .i64 3]) (by simp [results,Tryz.results190,go_sem,s0,s1,s2]) rfl ?_
  exact HP.out [] 0 0 3 _ HE.out F9.out.b
 | some f =>
 obtain ⟨f1,f2⟩:=f
 rw [hf] at HAf HX
 simp only at HAf HX
 clear hf
 by_cases k1 : kd = 1
 ·subst k1
  rw [if_pos rfl] at HX
  have hd : Ex.nameW dt = true:=by
   rcases hk with ⟨_,h,_⟩ | ⟨h,_⟩ | ⟨h,_⟩ | ⟨h,_⟩
   ·exact h
   ·cases h
   ·cases h
   ·cases h
  have HAd:=Lib.hid (fun W (hW : TrieP W t (.pointer (some ⟨vb,0,none⟩)))=>exec_Account W t (.pointer (some ⟨vb,0,none⟩)) hW dt (by have:=Ex.nameW_len hd; omega))
  unfold accW at HAd
  rw [hd,if_pos rfl] at HAd
  clear hk n1 hd hdt
  cases ht : Ex.acc t dt with
  | none =>
   rw [ht] at HAd HX
   have HE : Hid (X = (([],0,0),3)):=Lib.hid HX.out
   clear HX ht
   go_enter Tryz.func190,Tryz.ntmps190
   go_upto_region 1 with fail
   have F0:=Live.ha (Live.ha (Lib.hid (Live.start w)) #[.int .i64 1,.string ⟨fr.toArray⟩,.int .i64 sq,.string ⟨dt.toArray⟩,.int .i64 am,.string ⟨ky.toArray⟩,.string ⟨vl.toArray⟩,.slice A mm.length c] 80) #[.string ⟨#[]⟩,.int .i64 0,.int .i64 0] 62
   rw [show (w.alloc (.cells #[.int .i64 1,.string ⟨fr.toArray⟩,.int .i64 sq,.string ⟨dt.toArray⟩,.int .i64 am,.string ⟨ky.toArray⟩,.string ⟨vl.toArray⟩,.slice A mm.length c] 80)).heap.size = w.heap.size + 1 from by show (w.heap.push _).size = _; exact Array.size_push _] at F0
   obtain ⟨rb,hrb⟩ : ∃ rb,w.heap.size + 1 = rb:=⟨_,rfl⟩
   obtain ⟨xb,hxb⟩ : ∃ xb,w.heap.size = xb:=⟨_,rfl⟩
   rw [hrb,hxb] at F0 ⊢
   generalize (w.alloc (.cells #[.int .i64 1,.string ⟨fr.toArray⟩,.int .i64 sq,.string ⟨dt.toArray⟩,.int .i64 am,.string ⟨ky.toArray⟩,.string ⟨vl.toArray⟩,.slice A mm.length c] 80)).alloc (.cells #[.string ⟨#[]⟩,.int .i64 0,.int .i64 0] 62) = W0 at F0 ⊢
   clear hrb hxb
   have k1_0 : W0.cell? ⟨xb,0,none⟩ = some (.int .i64 1):=F0.out.cell 1 0 rfl rfl; have k1_1 : W0.cell? ⟨xb,1,none⟩ = some (.string ⟨fr.toArray⟩):=F0.out.cell 1 1 rfl rfl; have k1_2 : W0.cell? ⟨xb,2,none⟩ = some (.int .i64 sq):=F0.out.cell 1 2 rfl rfl; have k1_3 : W0.cell? ⟨xb,3,none⟩ = some (.string ⟨dt.toArray⟩):=F0.out.cell 1 3 rfl rfl; have k1_4 : W0.cell? ⟨xb,4,none⟩ = some (.int .i64 am):=F0.out.cell 1 4 rfl rfl; have k1_5 : W0.cell? ⟨xb,5,none⟩ = some (.string ⟨ky.toArray⟩):=F0.out.cell 1 5 rfl rfl; have k1_6 : W0.cell? ⟨xb,6,none⟩ = some (.string ⟨vl.toArray⟩):=F0.out.cell 1 6 rfl rfl; have k1_7 : W0.cell? ⟨xb,7,none⟩ = some (.slice A mm.length c):=F0.out.cell 1 7 rfl rfl
   go_wp2_with fail
   refine (HCk.out _ F0.out.b).mono ?_
   rintro e w1 ⟨rfl,hb⟩
   have F1:=Live.hb F0 hb
   clear hb F0 k1_0 k1_1 k1_2 k1_3 k1_4 k1_5 k1_6 k1_7 HCk
   have k1_1 : w1.cell? ⟨xb,1,none⟩ = some (.string ⟨fr.toArray⟩):=F1.out.cell 1 1 rfl rfl
   go_wp2_with fail
   refine (HAf.out _ (HTr.out.next F1.out.b)).mono ?_
   rintro e w2 ⟨rfl,hb⟩
   have F2:=Live.hb F1 hb
   clear hb F1 k1_1 HAf
   go_upto_region 5 with fail
   have F3:=Live.ha F2 #[.string ⟨fr.toArray⟩,.int .i64 ((f1 : Nat) : Int),.int .i64 ((f2 : Nat) : Int)] 62
   generalize World.alloc w2 _ = w3 at F3 ⊢
   generalize w2.heap.size = fb at F3 ⊢
   clear F2
   have k2_0 : w3.cell? ⟨xb,0,none⟩ = some (.int .i64 1):=F3.out.cell 2 0 rfl rfl
   have k2_3 : w3.cell? ⟨xb,3,none⟩ = some (.string ⟨dt.toArray⟩):=F3.out.cell 2 3 rfl rfl
   go_wp2_with fail
   refine (HAd.out _ (HTr.out.next F3.out.b)).mono ?_
   rintro e w4 ⟨rfl,hb⟩
   have F4:=Live.hb F3 hb
   clear hb F3 k2_0 k2_3
   go_upto_region 8 with fail
   have k1_0 : w4.cell? ⟨rb,0,none⟩ = some (.string ⟨#[]⟩):=F4.out.cell 1 0 rfl rfl; have k1_1 : w4.cell? ⟨rb,1,none⟩ = some (.int .i64 0):=F4.out.cell 1 1 rfl rfl; have k1_2 : w4.cell? ⟨rb,2,none⟩ = some (.int .i64 0):=F4.out.cell 1 2 rfl rfl
   have f1_0 : w4.frozen? ⟨rb,0,none⟩ = false:=F4.out.frozen 1 0 rfl; have f1_1 : w4.frozen? ⟨rb,1,none⟩ = false:=F4.out.frozen 1 1 rfl; have f1_2 : w4.frozen? ⟨rb,2,none⟩ = false:=F4.out.frozen 1 2 rfl
   go_wp2_with fail
   have F9:=Lib.hid (((F4.out.set 1 0 (.string ⟨#[]⟩) rfl).set 1 1 (.int .i64 0) rfl).set 1 2 (.int .i64 0) rfl)
   simp only [List.set_cons_zero,List.setIfInBounds_toArray,List.set_cons_succ] at F9
   generalize ((w4.setCell ⟨rb,0,none⟩ (.string ⟨#[]⟩)).setCell ⟨rb,1,none⟩ (.int .i64 0)).setCell ⟨rb,2,none⟩ (.int .i64 0) = W9 at F9 ⊢
   have s0 : W9.cell? ⟨rb,0,none⟩ = some (.string ⟨#[]⟩):=F9.out.cell 1 0 rfl rfl
   have s1 : W9.cell? ⟨rb,1,none⟩ = some (.int .i64 0):=F9.out.cell 1 1 rfl rfl
   have s2 : W9.cell? ⟨rb,2,none⟩ = some (.int .i64 0):=F9.out.cell 1 2 rfl rfl
   (try simp only [Exit.inBlock,Exit.then])
   refine bodyPost_ret (v:=.tuple #[.agg #[.string ⟨#[]⟩,.int .i64 0,.int .i64 0],.int .i64 3]) (by simp [results,Tryz.results190,go_sem,s0,s1,s2]) rfl ?_
   exact HP.out [] 0 0 3 _ HE.out F9.out.b
  | some tt =>
   obtain ⟨t1,t2⟩:=tt
   rw [ht] at HAd HX
   simp only at HAd HX
   clear ht
   go_enter Tryz.func190,Tryz.ntmps190
   go_upto_region 1 with fail
   have F0:=Live.ha (Live.ha (Lib.hid (Live.start w)) #[.int .i64 1,.string ⟨fr.toArray⟩,.int .i64 sq,.string ⟨dt.toArray⟩,.int .i64 am,.string ⟨ky.toArray⟩,.string ⟨vl.toArray⟩,.slice A mm.length c] 80) #[.string ⟨#[]⟩,.int .i64 0,.int .i64 0] 62
   rw [show (w.alloc (.cells #[.int .i64 1,.string ⟨fr.toArray⟩,.int .i64 sq,.string ⟨dt.toArray⟩,.int .i64 am,.string ⟨ky.toArray⟩,.string ⟨vl.toArray⟩,.slice A mm.length c] 80)).heap.size = w.heap.size + 1 from by show (w.heap.push _).size = _; exact Array.size_push _] at F0
   obtain ⟨rb,hrb⟩ : ∃ rb,w.heap.size + 1 = rb:=⟨_,rfl⟩
   obtain ⟨xb,hxb⟩ : ∃ xb,w.heap.size = xb:=⟨_,rfl⟩
   rw [hrb,hxb] at F0 ⊢
   generalize (w.alloc (.cells #[.int .i64 1,.string ⟨fr.toArray⟩,.int .i64 sq,.string ⟨dt.toArray⟩,.int .i64 am,.string ⟨ky.toArray⟩,.string ⟨vl.toArray⟩,.slice A mm.length c] 80)).alloc (.cells #[.string ⟨#[]⟩,.int .i64 0,.int .i64 0] 62) = W0 at F0 ⊢
   clear hrb hxb
   have k1_0 : W0.cell? ⟨xb,0,none⟩ = some (.int .i64 1):=F0.out.cell 1 0 rfl rfl; have k1_1 : W0.cell? ⟨xb,1,none⟩ = some (.string ⟨fr.toArray⟩):=F0.out.cell 1 1 rfl rfl; have k1_2 : W0.cell? ⟨xb,2,none⟩ = some (.int .i64 sq):=F0.out.cell 1 2 rfl rfl; have k1_3 : W0.cell? ⟨xb,3,none⟩ = some (.string ⟨dt.toArray⟩):=F0.out.cell 1 3 rfl rfl; have k1_4 : W0.cell? ⟨xb,4,none⟩ = some (.int .i64 am):=F0.out.cell 1 4 rfl rfl; have k1_5 : W0.cell? ⟨xb,5,none⟩ = some (.string ⟨ky.toArray⟩):=F0.out.cell 1 5 rfl rfl; have k1_6 : W0.cell? ⟨xb,6,none⟩ = some (.string ⟨vl.toArray⟩):=F0.out.cell 1 6 rfl rfl; have k1_7 : W0.cell? ⟨xb,7,none⟩ = some (.slice A mm.length c):=F0.out.cell 1 7 rfl rfl
   go_wp2_with fail
   refine (HCk.out _ F0.out.b).mono ?_
   rintro e w1 ⟨rfl,hb⟩
   have F1:=Live.hb F0 hb
   clear hb F0 k1_0 k1_1 k1_2 k1_3 k1_4 k1_5 k1_6 k1_7 HCk
   have k1_1 : w1.cell? ⟨xb,1,none⟩ = some (.string ⟨fr.toArray⟩):=F1.out.cell 1 1 rfl rfl
   go_wp2_with fail
   refine (HAf.out _ (HTr.out.next F1.out.b)).mono ?_
   rintro e w2 ⟨rfl,hb⟩
   have F2:=Live.hb F1 hb
   clear hb F1 k1_1 HAf
   go_upto_region 5 with fail
   have F3:=Live.ha F2 #[.string ⟨fr.toArray⟩,.int .i64 ((f1 : Nat) : Int),.int .i64 ((f2 : Nat) : Int)] 62
   generalize World.alloc w2 _ = w3 at F3 ⊢
   generalize w2.heap.size = fb at F3 ⊢
   clear F2
   have k2_0 : w3.cell? ⟨xb,0,none⟩ = some (.int .i64 1):=F3.out.cell 2 0 rfl rfl
   have k2_3 : w3.cell? ⟨xb,3,none⟩ = some (.string ⟨dt.toArray⟩):=F3.out.cell 2 3 rfl rfl
   go_wp2_with fail
   refine (HAd.out _ (HTr.out.next F3.out.b)).mono ?_
   rintro e w4 ⟨rfl,hb⟩
   have F4:=Live.hb F3 hb
   clear hb F3 k2_0 k2_3 HAd
   have k0_0 : w4.cell? ⟨fb,0,none⟩ = some (.string ⟨fr.toArray⟩):=F4.out.cell 0 0 rfl rfl; have k0_1 : w4.cell? ⟨fb,1,none⟩ = some (.int .i64 (f1 : Int)):=F4.out.cell 0 1 rfl rfl; have k0_2 : w4.cell? ⟨fb,2,none⟩ = some (.int .i64 (f2 : Int)):=F4.out.cell 0 2 rfl rfl
   have k2_2 : w4.cell? ⟨xb,2,none⟩ = some (.int .i64 sq):=F4.out.cell 2 2 rfl rfl
   by_cases g1 : (f2 : Int) = sq
   rotate_left
   ·have g1' : ((f2 : Int) == sq) = false:=by rw [beq_eq_false_iff_ne]; exact g1
    have HE : Hid (X = (([],0,0),160)):=Lib.hid (by rw [HX.out,if_pos (Or.inl g1)])
    clear HX g1
    go_upto_region 10 with fail
    clear k0_0 k0_1 k0_2
    have k1_0 : w4.cell? ⟨rb,0,none⟩ = some (.string ⟨#[]⟩):=F4.out.cell 1 0 rfl rfl; have k1_1 : w4.cell? ⟨rb,1,none⟩ = some (.int .i64 0):=F4.out.cell 1 1 rfl rfl; have k1_2 : w4.cell? ⟨rb,2,none⟩ = some (.int .i64 0):=F4.out.cell 1 2 rfl rfl
    have f1_0 : w4.frozen? ⟨rb,0,none⟩ = false:=F4.out.frozen 1 0 rfl; have f1_1 : w4.frozen? ⟨rb,1,none⟩ = false:=F4.out.frozen 1 1 rfl; have f1_2 : w4.frozen? ⟨rb,2,none⟩ = false:=F4.out.frozen 1 2 rfl
    go_wp2_with fail
    have F9:=Lib.hid (((F4.out.set 1 0 (.string ⟨#[]⟩) rfl).set 1 1 (.int .i64 0) rfl).set 1 2 (.int .i64 0) rfl)
    simp only [List.set_cons_zero,List.setIfInBounds_toArray,List.set_cons_succ] at F9
    generalize ((w4.setCell ⟨rb,0,none⟩ (.string ⟨#[]⟩)).setCell ⟨rb,1,none⟩ (.int .i64 0)).setCell ⟨rb,2,none⟩ (.int .i64 0) = W9 at F9 ⊢
    have s0 : W9.cell? ⟨rb,0,none⟩ = some (.string ⟨#[]⟩):=F9.out.cell 1 0 rfl rfl
    have s1 : W9.cell? ⟨rb,1,none⟩ = some (.int .i64 0):=F9.out.cell 1 1 rfl rfl
    have s2 : W9.cell? ⟨rb,2,none⟩ = some (.int .i64 0):=F9.out.cell 1 2 rfl rfl
    (try simp only [Exit.inBlock,Exit.then])
    refine bodyPost_ret (v:=.tuple #[.agg #[.string ⟨#[]⟩,.int .i64 0,.int .i64 0],.int .i64 160]) (by simp [results,Tryz.results190,go_sem,s0,s1,s2]) rfl ?_
    exact HP.out [] 0 0 160 _ HE.out F9.out.b
   subst g1
   have g1' : ((f2 : Int) == (f2 : Int)) = true:=by simp
   by_cases g2 : f2 = Ex.maxA
   ·have g2' : ((f2 : Int) == 1099511627776) = true:=by rw [g2]; rfl
    have HE : Hid (X = (([],0,0),160)):=Lib.hid (by rw [HX.out,if_pos (Or.inr g2)])
    clear HX g2
    go_upto_region 10 with fail
    clear k0_0 k0_1 k0_2
    have k1_0 : w4.cell? ⟨rb,0,none⟩ = some (.string ⟨#[]⟩):=F4.out.cell 1 0 rfl rfl; have k1_1 : w4.cell? ⟨rb,1,none⟩ = some (.int .i64 0):=F4.out.cell 1 1 rfl rfl; have k1_2 : w4.cell? ⟨rb,2,none⟩ = some (.int .i64 0):=F4.out.cell 1 2 rfl rfl
    have f1_0 : w4.frozen? ⟨rb,0,none⟩ = false:=F4.out.frozen 1 0 rfl; have f1_1 : w4.frozen? ⟨rb,1,none⟩ = false:=F4.out.frozen 1 1 rfl; have f1_2 : w4.frozen? ⟨rb,2,none⟩ = false:=F4.out.frozen 1 2 rfl
    go_wp2_with fail
    have F9:=Lib.hid (((F4.out.set 1 0 (.string ⟨#[]⟩) rfl).set 1 1 (.int .i64 0) rfl).set 1 2 (.int .i64 0) rfl)
    simp only [List.set_cons_zero,List.setIfInBounds_toArray,List.set_cons_succ] at F9
    generalize ((w4.setCell ⟨rb,0,none⟩ (.string ⟨#[]⟩)).setCell ⟨rb,1,none⟩ (.int .i64 0)).setCell ⟨rb,2,none⟩ (.int .i64 0) = W9 at F9 ⊢
    have s0 : W9.cell? ⟨rb,0,none⟩ = some (.string ⟨#[]⟩):=F9.out.cell 1 0 rfl rfl
    have s1 : W9.cell? ⟨rb,1,none⟩ = some (.int .i64 0):=F9.out.cell 1 1 rfl rfl
    have s2 : W9.cell? ⟨rb,2,none⟩ = some (.int .i64 0):=F9.out.cell 1 2 rfl rfl
    (try simp only [Exit.inBlock,Exit.then])
    refine bodyPost_ret (v:=.tuple #[.agg #[.string ⟨#[]⟩,.int .i64 0,.int .i64 0],.int .i64 160]) (by simp [results,Tryz.results190,go_sem,s0,s1,s2]) rfl ?_
    exact HP.out [] 0 0 160 _ HE.out F9.out.b
   have g2' : ((f2 : Int) == 1099511627776) = false:=by rw [beq_eq_false_iff_ne]; unfold Ex.maxA at g2; omega
   have HE : Hid (X = ((fr,f1,f2),0)):=Lib.hid (by rw [HX.out,if_neg]; rintro (h | h); exact h rfl; exact g2 h)
   clear HX g2
   have k1_0 : w4.cell? ⟨rb,0,none⟩ = some (.string ⟨#[]⟩):=F4.out.cell 1 0 rfl rfl; have k1_1 : w4.cell? ⟨rb,1,none⟩ = some (.int .i64 0):=F4.out.cell 1 1 rfl rfl; have k1_2 : w4.cell? ⟨rb,2,none⟩ = some (.int .i64 0):=F4.out.cell 1 2 rfl rfl
   have f1_0 : w4.frozen? ⟨rb,0,none⟩ = false:=F4.out.frozen 1 0 rfl; have f1_1 : w4.frozen? ⟨rb,1,none⟩ = false:=F4.out.frozen 1 1 rfl; have f1_2 : w4.frozen? ⟨rb,2,none⟩ = false:=F4.out.frozen 1 2 rfl
   go_wp2_with fail
   have F9:=Lib.hid (((F4.out.set 1 0 (.string ⟨fr.toArray⟩) rfl).set 1 1 (.int .i64 (f1 : Int)) rfl).set 1 2 (.int .i64 (f2 : Int)) rfl)
   simp only [List.set_cons_zero,List.setIfInBounds_toArray,List.set_cons_succ] at F9
   generalize ((w4.setCell ⟨rb,0,none⟩ (.string ⟨fr.toArray⟩)).setCell ⟨rb,1,none⟩ (.int .i64 (f1 : Int))).setCell ⟨rb,2,none⟩ (.int .i64 (f2 : Int)) = W9 at F9 ⊢
   have s0 : W9.cell? ⟨rb,0,none⟩ = some (.string ⟨fr.toArray⟩):=F9.out.cell 1 0 rfl rfl
   have s1 : W9.cell? ⟨rb,1,none⟩ = some (.int .i64 (f1 : Int)):=F9.out.cell 1 1 rfl rfl
   have s2 : W9.cell? ⟨rb,2,none⟩ = some (.int .i64 (f2 : Int)):=F9.out.cell 1 2 rfl rfl
   (try simp only [Exit.inBlock,Exit.then])
   refine bodyPost_ret (v:=.tuple #[.agg #[.string ⟨fr.toArray⟩,.int .i64 (f1 : Int),.int .i64 (f2 : Int)],.int .i64 0]) (by simp [results,Tryz.results190,go_sem,s0,s1,s2]) rfl ?_
   exact HP.out fr f1 f2 0 _ HE.out F9.out.b
 ·rw [if_neg k1] at HX
  have kk1 : (kd == 1) = false:=by rw [beq_eq_false_iff_ne]; exact k1
  simp only at HX
  clear hk n1 k1 hdt
  go_enter Tryz.func190,Tryz.ntmps190
  go_upto_region 1 with fail
  have F0:=Live.ha (Live.ha (Lib.hid (Live.start w)) #[.int .i64 kd,.string ⟨fr.toArray⟩,.int .i64 sq,.string ⟨dt.toArray⟩,.int .i64 am,.string ⟨ky.toArray⟩,.string ⟨vl.toArray⟩,.slice A mm.length c] 80) #[.string ⟨#[]⟩,.int .i64 0,.int .i64 0] 62
  rw [show (w.alloc (.cells #[.int .i64 kd,.string ⟨fr.toArray⟩,.int .i64 sq,.string ⟨dt.toArray⟩,.int .i64 am,.string ⟨ky.toArray⟩,.string ⟨vl.toArray⟩,.slice A mm.length c] 80)).heap.size = w.heap.size + 1 from by show (w.heap.push _).size = _; exact Array.size_push _] at F0
  obtain ⟨rb,hrb⟩ : ∃ rb,w.heap.size + 1 = rb:=⟨_,rfl⟩
  obtain ⟨xb,hxb⟩ : ∃ xb,w.heap.size = xb:=⟨_,rfl⟩
  rw [hrb,hxb] at F0 ⊢
  generalize (w.alloc (.cells #[.int .i64 kd,.string ⟨fr.toArray⟩,.int .i64 sq,.string ⟨dt.toArray⟩,.int .i64 am,.string ⟨ky.toArray⟩,.string ⟨vl.toArray⟩,.slice A mm.length c] 80)).alloc (.cells #[.string ⟨#[]⟩,.int .i64 0,.int .i64 0] 62) = W0 at F0 ⊢
  clear hrb hxb
  have k1_0 : W0.cell? ⟨xb,0,none⟩ = some (.int .i64 kd):=F0.out.cell 1 0 rfl rfl; have k1_1 : W0.cell? ⟨xb,1,none⟩ = some (.string ⟨fr.toArray⟩):=F0.out.cell 1 1 rfl rfl; have k1_2 : W0.cell? ⟨xb,2,none⟩ = some (.int .i64 sq):=F0.out.cell 1 2 rfl rfl; have k1_3 : W0.cell? ⟨xb,3,none⟩ = some (.string ⟨dt.toArray⟩):=F0.out.cell 1 3 rfl rfl; have k1_4 : W0.cell? ⟨xb,4,none⟩ = some (.int .i64 am):=F0.out.cell 1 4 rfl rfl; have k1_5 : W0.cell? ⟨xb,5,none⟩ = some (.string ⟨ky.toArray⟩):=F0.out.cell 1 5 rfl rfl; have k1_6 : W0.cell? ⟨xb,6,none⟩ = some (.string ⟨vl.toArray⟩):=F0.out.cell 1 6 rfl rfl; have k1_7 : W0.cell? ⟨xb,7,none⟩ = some (.slice A mm.length c):=F0.out.cell 1 7 rfl rfl
  go_wp2_with fail
  refine (HCk.out _ F0.out.b).mono ?_
  rintro e w1 ⟨rfl,hb⟩
  have F1:=Live.hb F0 hb
  clear hb F0 k1_0 k1_1 k1_2 k1_3 k1_4 k1_5 k1_6 k1_7 HCk
  have k1_1 : w1.cell? ⟨xb,1,none⟩ = some (.string ⟨fr.toArray⟩):=F1.out.cell 1 1 rfl rfl
  go_wp2_with fail
  refine (HAf.out _ (HTr.out.next F1.out.b)).mono ?_
  rintro e w2 ⟨rfl,hb⟩
  have F2:=Live.hb F1 hb
  clear hb F1 k1_1 HAf
  go_upto_region 5 with fail
  have F3:=Live.ha F2 #[.string ⟨fr.toArray⟩,.int .i64 ((f1 : Nat) : Int),.int .i64 ((f2 : Nat) : Int)] 62
  generalize World.alloc w2 _ = w3 at F3 ⊢
  generalize w2.heap.size = fb at F3 ⊢
  clear F2
  have k2_0 : w3.cell? ⟨xb,0,none⟩ = some (.int .i64 kd):=F3.out.cell 2 0 rfl rfl
  have k0_0 : w3.cell? ⟨fb,0,none⟩ = some (.string ⟨fr.toArray⟩):=F3.out.cell 0 0 rfl rfl; have k0_1 : w3.cell? ⟨fb,1,none⟩ = some (.int .i64 (f1 : Int)):=F3.out.cell 0 1 rfl rfl; have k0_2 : w3.cell? ⟨fb,2,none⟩ = some (.int .i64 (f2 : Int)):=F3.out.cell 0 2 rfl rfl
  have k2_2 : w3.cell? ⟨xb,2,none⟩ = some (.int .i64 sq):=F3.out.cell 2 2 rfl rfl
  by_cases g1 : (f2 : Int) = sq
  rotate_left
  ·have g1' : ((f2 : Int) == sq) = false:=by rw [beq_eq_false_iff_ne]; exact g1
   have HE : Hid (X = (([],0,0),160)):=Lib.hid (by rw [HX.out,if_pos (Or.inl g1)])
   clear HX g1
   go_upto_region 10 with fail
   clear k0_0 k0_1 k0_2
   have k1_0 : w3.cell? ⟨rb,0,none⟩ = some (.string ⟨#[]⟩):=F3.out.cell 1 0 rfl rfl; have k1_1 : w3.cell? ⟨rb,1,none⟩ = some (.int .i64 0):=F3.out.cell 1 1 rfl rfl; have k1_2 : w3.cell? ⟨rb,2,none⟩ = some (.int .i64 0):=F3.out.cell 1 2 rfl rfl
   have f1_0 : w3.frozen? ⟨rb,0,none⟩ = false:=F3.out.frozen 1 0 rfl; have f1_1 : w3.frozen? ⟨rb,1,none⟩ = false:=F3.out.frozen 1 1 rfl; have f1_2 : w3.frozen? ⟨rb,2,none⟩ = false:=F3.out.frozen 1 2 rfl
   go_wp2_with fail
   have F9:=Lib.hid (((F3.out.set 1 0 (.string ⟨#[]⟩) rfl).set 1 1 (.int .i64 0) rfl).set 1 2 (.int .i64 0) rfl)
   simp only [List.set_cons_zero,List.setIfInBounds_toArray,List.set_cons_succ] at F9
   generalize ((w3.setCell ⟨rb,0,none⟩ (.string ⟨#[]⟩)).setCell ⟨rb,1,none⟩ (.int .i64 0)).setCell ⟨rb,2,none⟩ (.int .i64 0) = W9 at F9 ⊢
   have s0 : W9.cell? ⟨rb,0,none⟩ = some (.string ⟨#[]⟩):=F9.out.cell 1 0 rfl rfl
   have s1 : W9.cell? ⟨rb,1,none⟩ = some (.int .i64 0):=F9.out.cell 1 1 rfl rfl
   have s2 : W9.cell? ⟨rb,2,none⟩ = some (.int .i64 0):=F9.out.cell 1 2 rfl rfl
   (try simp only [Exit.inBlock,Exit.then])
   refine bodyPost_ret (v:=.tuple #[.agg #[.string ⟨#[]⟩,.int .i64 0,.int .i64 0],.int .i64 160]) (by simp [results,Tryz.results190,go_sem,s0,s1,s2]) rfl ?_
   exact HP.out [] 0 0 160 _ HE.out F9.out.b
  subst g1
  have g1' : ((f2 : Int) == (f2 : Int)) = true:=by simp
  by_cases g2 : f2 = Ex.maxA
  ·have g2' : ((f2 : Int) == 1099511627776) = true:=by rw [g2]; rfl
   have HE : Hid (X = (([],0,0),160)):=Lib.hid (by rw [HX.out,if_pos (Or.inr g2)])
   clear HX g2
   go_upto_region 10 with fail
   clear k0_0 k0_1 k0_2
   have k1_0 : w3.cell? ⟨rb,0,none⟩ = some (.string ⟨#[]⟩):=F3.out.cell 1 0 rfl rfl; have k1_1 : w3.cell? ⟨rb,1,none⟩ = some (.int .i64 0):=F3.out.cell 1 1 rfl rfl; have k1_2 : w3.cell? ⟨rb,2,none⟩ = some (.int .i64 0):=F3.out.cell 1 2 rfl rfl
   have f1_0 : w3.frozen? ⟨rb,0,none⟩ = false:=F3.out.frozen 1 0 rfl; have f1_1 : w3.frozen? ⟨rb,1,none⟩ = false:=F3.out.frozen 1 1 rfl; have f1_2 : w3.frozen? ⟨rb,2,none⟩ = false:=F3.out.frozen 1 2 rfl
   go_wp2_with fail
   have F9:=Lib.hid (((F3.out.set 1 0 (.string ⟨#[]⟩) rfl).set 1 1 (.int .i64 0) rfl).set 1 2 (.int .i64 0) rfl)
   simp only [List.set_cons_zero,List.setIfInBounds_toArray,List.set_cons_succ] at F9
   generalize ((w3.setCell ⟨rb,0,none⟩ (.string ⟨#[]⟩)).setCell ⟨rb,1,none⟩ (.int .i64 0)).setCell ⟨rb,2,none⟩ (.int .i64 0) = W9 at F9 ⊢
   have s0 : W9.cell? ⟨rb,0,none⟩ = some (.string ⟨#[]⟩):=F9.out.cell 1 0 rfl rfl
   have s1 : W9.cell? ⟨rb,1,none⟩ = some (.int .i64 0):=F9.out.cell 1 1 rfl rfl
   have s2 : W9.cell? ⟨rb,2,none⟩ = some (.int .i64 0):=F9.out.cell 1 2 rfl rfl
   (try simp only [Exit.inBlock,Exit.then])
   refine bodyPost_ret (v:=.tuple #[.agg #[.string ⟨#[]⟩,.int .i64 0,.int .i64 0],.int .i64 160]) (by simp [results,Tryz.results190,go_sem,s0,s1,s2]) rfl ?_
   exact HP.out [] 0 0 160 _ HE.out F9.out.b
  have g2' : ((f2 : Int) == 1099511627776) = false:=by rw [beq_eq_false_iff_ne]; unfold Ex.maxA at g2; omega
  have HE : Hid (X = ((fr,f1,f2),0)):=Lib.hid (by rw [HX.out,if_neg]; rintro (h | h); exact h rfl; exact g2 h)
  clear HX g2
  have k1_0 : w3.cell? ⟨rb,0,none⟩ = some (.string ⟨#[]⟩):=F3.out.cell 1 0 rfl rfl; have k1_1 : w3.cell? ⟨rb,1,none⟩ = some (.int .i64 0):=F3.out.cell 1 1 rfl rfl; have k1_2 : w3.cell? ⟨rb,2,none⟩ = some (.int .i64 0):=F3.out.cell 1 2 rfl rfl
  have f1_0 : w3.frozen? ⟨rb,0,none⟩ = false:=F3.out.frozen 1 0 rfl; have f1_1 : w3.frozen? ⟨rb,1,none⟩ = false:=F3.out.frozen 1 1 rfl; have f1_2 : w3.frozen? ⟨rb,2,none⟩ = false:=F3.out.frozen 1 2 rfl
  go_wp2_with fail
  have F9:=Lib.hid (((F3.out.set 1 0 (.string ⟨fr.toArray⟩) rfl).set 1 1 (.int .i64 (f1 : Int)) rfl).set 1 2 (.int .i64 (f2 : Int)) rfl)
  simp only [List.set_cons_zero,List.setIfInBounds_toArray,List.set_cons_succ] at F9
  generalize ((w3.setCell ⟨rb,0,none⟩ (.string ⟨fr.toArray⟩)).setCell ⟨rb,1,none⟩ (.int .i64 (f1 : Int))).setCell ⟨rb,2,none⟩ (.int .i64 (f2 : Int)) = W9 at F9 ⊢
  have s0 : W9.cell? ⟨rb,0,none⟩ = some (.string ⟨fr.toArray⟩):=F9.out.cell 1 0 rfl rfl
  have s1 : W9.cell? ⟨rb,1,none⟩ = some (.int .i64 (f1 : Int)):=F9.out.cell 1 1 rfl rfl
  have s2 : W9.cell? ⟨rb,2,none⟩ = some (.int .i64 (f2 : Int)):=F9.out.cell 1 2 rfl rfl
  (try simp only [Exit.inBlock,Exit.then])
  refine bodyPost_ret (v:=.tuple #[.agg #[.string ⟨fr.toArray⟩,.int .i64 (f1 : Int),.int .i64 (f2 : Int)],.int .i64 0]) (by simp [results,Tryz.results190,go_sem,s0,s1,s2]) rfl ?_
  exact HP.out fr f1 f2 0 _ HE.out F9.out.b
end Go.Proofs.YtnelhjfjkkdoaaaGreatDoor
