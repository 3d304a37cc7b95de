import Derived.Test.YtnelhjfjkkdoaaaGreatDoorJ21
import Derived.Test.YtnelhjfjkkdoaaaGreatDoorJ26
import Derived.Test.YtnelhjfjkkdoaaaGreatDoorJ23
import Derived.Test.YtnelhjfjkkdoaaaGreatDoorJ05
import Derived.Test.YtnelhjfjkkdoaaaGreatDoorJ31
import Derived.Test.YtnelhjfjkkdoaaaGreatDoorJ34
import Derived.Test.YtnelhjfjkkdoaaaGreatDoorJ30
import Derived.Test.YtnelhjfjkkdoaaaGreatDoorJ32
import Derived.Test.YtnelhjfjkkdoaaaGreatDoorJ04
import Derived.Test.YtnelhjfjkkdoaaaGreatDoorJ33
import Derived.Laws.OwnMore
set_option linter.unusedSimpArgs false
set_option linter.unusedVariables false
namespace Go.Proofs.YtnelhjfjkkdoaaaGreatDoor
open Go.RowKit Go.Instr
attribute [local go_sem] ba_get ByteArray.mk_append_mk
attribute [local go_sem ↓] Go.wp_at_zero Go.wp_at_succ
set_option maxRecDepth 100000 in
set_option maxHeartbeats 4000000 in
theorem tx_Encode (w : World) (kd : Int) (fr : List UInt8) (sq : Int) (dt : List UInt8) (am : Int) (ky vl : List UInt8) (mm : List Pw.Mem) (o : OkT ⟨kd,fr,sq,dt,am,ky,vl,mm⟩) (hx : Ex.fineX ⟨kd,fr,sq,dt,am,ky,vl,mm⟩ = true)
  (A : Option Addr) (c : Nat) (HR : Reads w w.heap.size 2 A mm.length (mcells mm)) :
  Calls Tryz.prog 133 #[.agg #[.int .i64 kd,.string ⟨fr.toArray⟩,.int .i64 sq,.string ⟨dt.toArray⟩,.int .i64 am,.string ⟨ky.toArray⟩,.string ⟨vl.toArray⟩,.slice A mm.length c]] w (Ret w (.tuple #[.string ⟨(Ex.writX ⟨kd,fr,sq,dt,am,ky,vl,mm⟩).toArray⟩,.int .i64 0])):=by
 have HP : Hid (∀ (s : List UInt8) w',Ex.writX ⟨kd,fr,sq,dt,am,ky,vl,mm⟩ = s → Below w.heap.size w w' → Ret w (.tuple #[.string ⟨(Ex.writX ⟨kd,fr,sq,dt,am,ky,vl,mm⟩).toArray⟩,.int .i64 0]) (.returned (.tuple #[.string ⟨s.toArray⟩,.int .i64 0])) w'):=Lib.hid (fun s w' e h=>by rw [e]; exact ⟨rfl,h⟩)
 generalize Ret w (.tuple #[.string ⟨(Ex.writX ⟨kd,fr,sq,dt,am,ky,vl,mm⟩).toArray⟩,.int .i64 0]) = P at HP ⊢
 have HC:=Lib.hid (fun W (hW : Below w.heap.size w W)=>tx_Check W kd fr sq dt am ky vl mm A c o.f o.d o.k o.v o.m ((HR.below hW).more hW.size))
 rw [hx] at HC
 simp only [if_true] at HC
 have hsp:=Ex.fineX_spec hx
 simp only at hsp
 obtain ⟨s1,s2,s3,s4⟩:=hsp
 have hfr:=(Ex.nameW_len s1).2
 have hkd : 1 ≤ kd ∧ kd ≤ 4:=by rcases s4 with ⟨k,_⟩ | ⟨k,_⟩ | ⟨k,_⟩ | ⟨k,_⟩ <;> omega
 have b0 : (0 : Int) ≤ kd:=by omega
 have b1 : kd < 256:=by omega
 have hw8 : IntKind.u8.wrap kd = kd:=IntWalk.u8_in _ (by omega)
 obtain ⟨q,rfl⟩:=Int.eq_ofNat_of_zero_le s2
 have HTf:=Lib.hid (fun W=>code_Text fr (by omega) W)
 have HNs:=Lib.hid (fun W=>code_Num q (by omega) W)
 have HX : Hid (Ex.writX ⟨kd,fr,(q : Int),dt,am,ky,vl,mm⟩ = (UInt8.ofNat kd.toNat :: (textW fr ++ numW q)) ++ Ex.bodyX ⟨kd,fr,(q : Int),dt,am,ky,vl,mm⟩):=Lib.hid rfl
 have HB : Hid (Ex.bodyX ⟨kd,fr,(q : Int),dt,am,ky,vl,mm⟩ = if kd = 1 then textW dt ++ numW am.toNat else if kd = 2 then textW ky ++ textW vl else if kd = 3 then textW ky else textW (Pw.encM mm)):=Lib.hid rfl
 have l1:=Ex.text_le hfr (by omega)
 have l2:=numW_len q (by omega)
 have HS4:=Lib.hid s4
 have HRR:=Lib.hid HR
 generalize Ex.writX ⟨kd,fr,(q : Int),dt,am,ky,vl,mm⟩ = X at *
 generalize Ex.bodyX ⟨kd,fr,(q : Int),dt,am,ky,vl,mm⟩ = Y at *
 generalize textW fr = F1 at *
 generalize numW q = N2 at *
 have m1 : 1 + F1.length ≤ 9223372036854775807:=by omega
 have m2 : F1.length + 1 ≤ 9223372036854775807:=by omega
 have m3 : F1.length + 1 + N2.length ≤ 9223372036854775807:=by omega
 have n1 : (9223372036854775807 < 1 + F1.length) = False:=by simp; omega
 have n2 : (9223372036854775807 < F1.length + 1) = False:=by simp; omega
 have n3 : (9223372036854775807 < F1.length + 1 + N2.length) = False:=by simp; omega
 have n4 : (9223372036854775807 < 1 + F1.length + N2.length) = False:=by simp; omega
 have n5 : (9223372036854775807 < 1 + (F1.length + N2.length)) = False:=by simp; omega
 have n6 : (9223372036854775807 < F1.length + (N2.length + 1)) = False:=by simp; omega
 have n7 : (9223372036854775807 < F1.length + N2.length + 1) = False:=by simp; omega
 have HL1 : Hid ((UInt8.ofNat kd.toNat :: (F1 ++ N2)).length ≤ 30):=Lib.hid (by simp only [List.length_cons,List.length_append]; omega)
 clear hx HR s1 s3 s4 l1 l2 hfr s2 o hkd
 go_enter Tryz.func133,Tryz.ntmps133
 go_upto_region 1 with fail
 have F:=Live.ha (Lib.hid (Live.start w)) #[.int .i64 kd,.string ⟨fr.toArray⟩,.int .i64 (q : Int),.string ⟨dt.toArray⟩,.int .i64 am,.string ⟨ky.toArray⟩,.string ⟨vl.toArray⟩,.slice A mm.length c] 80
 generalize w.alloc (.cells #[.int .i64 kd,.string ⟨fr.toArray⟩,.int .i64 (q : Int),.string ⟨dt.toArray⟩,.int .i64 am,.string ⟨ky.toArray⟩,.string ⟨vl.toArray⟩,.slice A mm.length c] 80) = W0 at F ⊢
 generalize w.heap.size = xb at F ⊢
 have k0_0 : W0.cell? ⟨xb,0,none⟩ = some (.int .i64 kd):=F.out.cell 0 0 rfl rfl; have k0_1 : W0.cell? ⟨xb,1,none⟩ = some (.string ⟨fr.toArray⟩):=F.out.cell 0 1 rfl rfl; have k0_2 : W0.cell? ⟨xb,2,none⟩ = some (.int .i64 (q : Int)):=F.out.cell 0 2 rfl rfl; have k0_3 : W0.cell? ⟨xb,3,none⟩ = some (.string ⟨dt.toArray⟩):=F.out.cell 0 3 rfl rfl; have k0_4 : W0.cell? ⟨xb,4,none⟩ = some (.int .i64 am):=F.out.cell 0 4 rfl rfl; have k0_5 : W0.cell? ⟨xb,5,none⟩ = some (.string ⟨ky.toArray⟩):=F.out.cell 0 5 rfl rfl; have k0_6 : W0.cell? ⟨xb,6,none⟩ = some (.string ⟨vl.toArray⟩):=F.out.cell 0 6 rfl rfl; have k0_7 : W0.cell? ⟨xb,7,none⟩ = some (.slice A mm.length c):=F.out.cell 0 7 rfl rfl
 go_wp2_with fail
 refine (HC.out _ F.out.b).mono ?_
 rintro e w1 ⟨rfl,hb⟩
 have F:=Live.hb F hb
 clear hb HC k0_0 k0_1 k0_2 k0_3 k0_4 k0_5 k0_6 k0_7
 have k0_2 : w1.cell? ⟨xb,2,none⟩ = some (.int .i64 (q : Int)):=F.out.cell 0 2 rfl rfl
 go_wp2_with fail
 refine (HNs.out _).mono ?_
 rintro e w2 ⟨rfl,hb⟩
 have F:=Live.hb F hb
 clear hb HNs k0_2
 go_upto_region 5 with fail
 go_cut [7] (fun s wx=>s = .string ⟨(UInt8.ofNat kd.toNat :: (F1 ++ N2)).toArray⟩ ∧ Live w wx [(xb,80,#[.int .i64 kd,.string ⟨fr.toArray⟩,.int .i64 (q : Int),.string ⟨dt.toArray⟩,.int .i64 am,.string ⟨ky.toArray⟩,.string ⟨vl.toArray⟩,.slice A mm.length c])])
 case first =>
  refine wp_region_held_drew (S:=fun w'=>w'.cell? ⟨xb,0,none⟩ = some (.int .i64 kd) ∧ w'.cell? ⟨xb,1,none⟩ = some (.string ⟨fr.toArray⟩)) (by kernel_rfl) ⟨F.out.cell 0 0 rfl rfl,F.out.cell 0 1 rfl rfl⟩ (fun hHeld => ?_)
  have F:=live_drew F
  generalize w2.drew = Wd at F hHeld ⊢
  refine tk 0 23 rfl ?_
  try simp only [Act.put,List.setIfInBounds_toArray,List.set_cons_zero,List.set_cons_succ]
  refine tk 1 24 rfl ?_
  try simp only [Act.put,List.setIfInBounds_toArray,List.set_cons_zero,List.set_cons_succ]
  refine tk 2 25 rfl ?_
  try simp only [Act.put,List.setIfInBounds_toArray,List.set_cons_zero,List.set_cons_succ]
  refine tk 5 28 rfl ?_
  try simp only [Act.put,List.setIfInBounds_toArray,List.set_cons_zero,List.set_cons_succ]
  refine tk 6 29 rfl ?_
  try simp only [Act.put,List.setIfInBounds_toArray,List.set_cons_zero,List.set_cons_succ]
  refine tk 9 32 rfl ?_
  try simp only [Act.put,List.setIfInBounds_toArray,List.set_cons_zero,List.set_cons_succ]
  refine rd2 3 7 rfl rfl (fun K hK => ?_) (fun K hK => ?_)
  ·skip
   go_simp
   have F:=Live.ha F #[.int .u8 kd] 5
   refine hK.out _ _ ⟨F.out.cell 1 0 rfl rfl,F.out.cell 1 1 rfl rfl⟩ (fun hHeld => ?_)
   clear hK K
   try simp only [Act.put,List.setIfInBounds_toArray,List.set_cons_zero,List.set_cons_succ]
   generalize World.alloc _ (.cells #[.int .u8 kd] 5) = Wa at F hHeld ⊢
   refine rd2 4 7 rfl rfl (fun K hK => ?_) (fun K hK => ?_)
   ·skip
    have cv:=conv1b (F.out.blk 0 rfl) b0 b1
    go_simp
    refine hK.out _ _ ⟨F.out.cell 1 0 rfl rfl,F.out.cell 1 1 rfl rfl⟩ (fun hHeld => ?_)
    clear hK K cv
    try simp only [Act.put,List.setIfInBounds_toArray,List.set_cons_zero,List.set_cons_succ]
    refine rd1 7 rfl (fun K hK => ?_)
    go_simp
    refine (HTf.out _).mono ?_
    rintro e Wt ⟨rfl,hb⟩
    have F:=Live.hb F hb
    clear hb
    go_simp
    refine hK.out _ _ ⟨F.out.cell 1 0 rfl rfl,F.out.cell 1 1 rfl rfl⟩ (fun hHeld => ?_)
    clear hK K
    try simp only [Act.put,List.setIfInBounds_toArray,List.set_cons_zero,List.set_cons_succ]
    refine tk 8 31 rfl ?_
    try simp only [Act.put,List.setIfInBounds_toArray,List.set_cons_zero,List.set_cons_succ]
    refine tk 10 33 rfl ?_
    try simp only [Act.put,List.setIfInBounds_toArray,List.set_cons_zero,List.set_cons_succ]
    refine tk 11 7 rfl ?_
    try simp only [Act.put,List.setIfInBounds_toArray,List.set_cons_zero,List.set_cons_succ]
    refine wpAnyH_done (by kernel_rfl) ?_ _
    go_wp2_with fail
    go_meet
    exact ⟨rfl,F.out.drop 1⟩
   ·skip
    go_simp
    refine (HTf.out _).mono ?_
    rintro e Wt ⟨rfl,hb⟩
    have F:=Live.hb F hb
    clear hb
    go_simp
    refine hK.out _ _ ⟨F.out.cell 1 0 rfl rfl,F.out.cell 1 1 rfl rfl⟩ (fun hHeld => ?_)
    clear hK K
    try simp only [Act.put,List.setIfInBounds_toArray,List.set_cons_zero,List.set_cons_succ]
    refine rd1 4 rfl (fun K hK => ?_)
    have cv:=conv1b (F.out.blk 0 rfl) b0 b1
    go_simp
    refine hK.out _ _ ⟨F.out.cell 1 0 rfl rfl,F.out.cell 1 1 rfl rfl⟩ (fun hHeld => ?_)
    clear hK K cv
    try simp only [Act.put,List.setIfInBounds_toArray,List.set_cons_zero,List.set_cons_succ]
    refine tk 8 31 rfl ?_
    try simp only [Act.put,List.setIfInBounds_toArray,List.set_cons_zero,List.set_cons_succ]
    refine tk 10 33 rfl ?_
    try simp only [Act.put,List.setIfInBounds_toArray,List.set_cons_zero,List.set_cons_succ]
    refine tk 11 7 rfl ?_
    try simp only [Act.put,List.setIfInBounds_toArray,List.set_cons_zero,List.set_cons_succ]
    refine wpAnyH_done (by kernel_rfl) ?_ _
    go_wp2_with fail
    go_meet
    exact ⟨rfl,F.out.drop 1⟩
  ·skip
   go_simp
   refine (HTf.out _).mono ?_
   rintro e Wt ⟨rfl,hb⟩
   have F:=Live.hb F hb
   clear hb
   go_simp
   refine hK.out _ _ ⟨F.out.cell 0 0 rfl rfl,F.out.cell 0 1 rfl rfl⟩ (fun hHeld => ?_)
   clear hK K
   try simp only [Act.put,List.setIfInBounds_toArray,List.set_cons_zero,List.set_cons_succ]
   refine rd1 3 rfl (fun K hK => ?_)
   go_simp
   have F:=Live.ha F #[.int .u8 kd] 5
   refine hK.out _ _ ⟨F.out.cell 1 0 rfl rfl,F.out.cell 1 1 rfl rfl⟩ (fun hHeld => ?_)
   clear hK K
   try simp only [Act.put,List.setIfInBounds_toArray,List.set_cons_zero,List.set_cons_succ]
   generalize World.alloc _ (.cells #[.int .u8 kd] 5) = Wa at F hHeld ⊢
   refine rd1 4 rfl (fun K hK => ?_)
   have cv:=conv1b (F.out.blk 0 rfl) b0 b1
   go_simp
   refine hK.out _ _ ⟨F.out.cell 1 0 rfl rfl,F.out.cell 1 1 rfl rfl⟩ (fun hHeld => ?_)
   clear hK K cv
   try simp only [Act.put,List.setIfInBounds_toArray,List.set_cons_zero,List.set_cons_succ]
   refine tk 8 31 rfl ?_
   try simp only [Act.put,List.setIfInBounds_toArray,List.set_cons_zero,List.set_cons_succ]
   refine tk 10 33 rfl ?_
   try simp only [Act.put,List.setIfInBounds_toArray,List.set_cons_zero,List.set_cons_succ]
   refine tk 11 7 rfl ?_
   try simp only [Act.put,List.setIfInBounds_toArray,List.set_cons_zero,List.set_cons_succ]
   refine wpAnyH_done (by kernel_rfl) ?_ _
   go_wp2_with fail
   go_meet
   exact ⟨rfl,F.out.drop 1⟩
 case rest =>
 obtain ⟨rfl,hF⟩:=hcut
 have F1h:=Lib.hid hF
 clear hF F m1 m2 m3 n1 n2 n3 n4 n5 n6 n7 HTf hw8 b0 b1
 generalize UInt8.ofNat kd.toNat :: (F1 ++ N2) = S1 at *
 have s30:=HL1.out
 rcases HS4.out with ⟨rfl,hn,a1,a2,_⟩ | ⟨rfl,_,_,_,v1,v2,q1,q2⟩ | ⟨rfl,_,_,_,_,q1,q2⟩ | ⟨rfl,_,_,_,_,hm⟩
 ·obtain ⟨am,rfl⟩:=Int.eq_ofNat_of_zero_le (show 0 ≤ am by omega)
  have hd6:=(Ex.nameW_len hn).2
  have HT:=Lib.hid (fun W=>code_Text dt (by omega) W)
  have HN:=Lib.hid (fun W=>code_Num am (by omega) W)
  have HE : Hid (X = S1 ++ (textW dt ++ numW am)):=Lib.hid (by rw [HX.out,HB.out,if_pos rfl]; rfl)
  have l1:=Ex.text_le hd6 (by omega)
  have l2:=numW_len am (by omega)
  clear HS4 HX HB hn a1 a2 hd6
  generalize textW dt = T1 at *
  generalize numW am = N1 at *
  have n1 : (9223372036854775807 < S1.length + T1.length) = False:=by simp; omega
  have n2 : (9223372036854775807 < S1.length + T1.length + N1.length) = False:=by simp; omega
  have n3 : (9223372036854775807 < S1.length + (T1.length + N1.length)) = False:=by simp; omega
  have nx : (9223372036854775807 < T1.length + N1.length) = False:=by simp; omega
  have k0_0 : wc.cell? ⟨xb,0,none⟩ = some (.int .i64 1):=F1h.out.cell 0 0 rfl rfl; have k0_1 : wc.cell? ⟨xb,1,none⟩ = some (.string ⟨fr.toArray⟩):=F1h.out.cell 0 1 rfl rfl; have k0_2 : wc.cell? ⟨xb,2,none⟩ = some (.int .i64 (q : Int)):=F1h.out.cell 0 2 rfl rfl; have k0_3 : wc.cell? ⟨xb,3,none⟩ = some (.string ⟨dt.toArray⟩):=F1h.out.cell 0 3 rfl rfl; have k0_4 : wc.cell? ⟨xb,4,none⟩ = some (.int .i64 (am : Int)):=F1h.out.cell 0 4 rfl rfl; have k0_5 : wc.cell? ⟨xb,5,none⟩ = some (.string ⟨ky.toArray⟩):=F1h.out.cell 0 5 rfl rfl; have k0_6 : wc.cell? ⟨xb,6,none⟩ = some (.string ⟨vl.toArray⟩):=F1h.out.cell 0 6 rfl rfl; have k0_7 : wc.cell? ⟨xb,7,none⟩ = some (.slice A mm.length c):=F1h.out.cell 0 7 rfl rfl
  go_wp2_with fail
  refine (HN.out _).mono ?_
  rintro e w3 ⟨rfl,hb⟩
  have F2:=Live.hb F1h hb
  clear hb F1h k0_0 k0_1 k0_2 k0_3 k0_4 k0_5 k0_6 k0_7
  have k0_0 : w3.cell? ⟨xb,0,none⟩ = some (.int .i64 1):=F2.out.cell 0 0 rfl rfl; have k0_1 : w3.cell? ⟨xb,1,none⟩ = some (.string ⟨fr.toArray⟩):=F2.out.cell 0 1 rfl rfl; have k0_2 : w3.cell? ⟨xb,2,none⟩ = some (.int .i64 (q : Int)):=F2.out.cell 0 2 rfl rfl; have k0_3 : w3.cell? ⟨xb,3,none⟩ = some (.string ⟨dt.toArray⟩):=F2.out.cell 0 3 rfl rfl; have k0_4 : w3.cell? ⟨xb,4,none⟩ = some (.int .i64 (am : Int)):=F2.out.cell 0 4 rfl rfl; have k0_5 : w3.cell? ⟨xb,5,none⟩ = some (.string ⟨ky.toArray⟩):=F2.out.cell 0 5 rfl rfl; have k0_6 : w3.cell? ⟨xb,6,none⟩ = some (.string ⟨vl.toArray⟩):=F2.out.cell 0 6 rfl rfl; have k0_7 : w3.cell? ⟨xb,7,none⟩ = some (.slice A mm.length c):=F2.out.cell 0 7 rfl rfl
  go_wp2_with fail
  refine (HT.out _).mono ?_
  rintro e w4 ⟨rfl,hb⟩
  have F3:=Live.hb F2 hb
  clear hb
  go_wp2_with fail
  exact HP.out _ _ HE.out F3.out.b
 ·have HT:=Lib.hid (fun W=>code_Text ky (by omega) W)
  have HN:=Lib.hid (fun W=>code_Text vl (by omega) W)
  have HE : Hid (X = S1 ++ (textW ky ++ textW vl)):=Lib.hid (by rw [HX.out,HB.out,if_neg (by decide),if_pos rfl])
  have l1:=Ex.text_le q2 (by omega)
  have l2:=Ex.text_le v2 (by omega)
  clear HS4 HX HB
  generalize textW ky = T1 at *
  generalize textW vl = N1 at *
  have n1 : (9223372036854775807 < S1.length + T1.length) = False:=by simp; omega
  have n2 : (9223372036854775807 < S1.length + T1.length + N1.length) = False:=by simp; omega
  have n3 : (9223372036854775807 < S1.length + (T1.length + N1.length)) = False:=by simp; omega
  have nx : (9223372036854775807 < T1.length + N1.length) = False:=by simp; omega
  have k0_0 : wc.cell? ⟨xb,0,none⟩ = some (.int .i64 2):=F1h.out.cell 0 0 rfl rfl; have k0_1 : wc.cell? ⟨xb,1,none⟩ = some (.string ⟨fr.toArray⟩):=F1h.out.cell 0 1 rfl rfl; have k0_2 : wc.cell? ⟨xb,2,none⟩ = some (.int .i64 (q : Int)):=F1h.out.cell 0 2 rfl rfl; have k0_3 : wc.cell? ⟨xb,3,none⟩ = some (.string ⟨dt.toArray⟩):=F1h.out.cell 0 3 rfl rfl; have k0_4 : wc.cell? ⟨xb,4,none⟩ = some (.int .i64 am):=F1h.out.cell 0 4 rfl rfl; have k0_5 : wc.cell? ⟨xb,5,none⟩ = some (.string ⟨ky.toArray⟩):=F1h.out.cell 0 5 rfl rfl; have k0_6 : wc.cell? ⟨xb,6,none⟩ = some (.string ⟨vl.toArray⟩):=F1h.out.cell 0 6 rfl rfl; have k0_7 : wc.cell? ⟨xb,7,none⟩ = some (.slice A mm.length c):=F1h.out.cell 0 7 rfl rfl
  go_upto_region 11 with fail
  go_region_held3 (fun w'=>w'.cell? ⟨xb,5,none⟩ = some (.string ⟨ky.toArray⟩) ∧ w'.cell? ⟨xb,6,none⟩ = some (.string ⟨vl.toArray⟩)) (first | go_keep | (refine ⟨?_, ?_⟩ <;> assumption)) (first | (go_at_call 124; ((first | (with_reducible refine (HT.out _).mono ?_) | (with_reducible refine (HN.out _).mono ?_)); (rintro e w2 ⟨rfl,hb⟩; (first | have F1h:=Live.hb F1h hb | have F1h:=Live.hbd F1h hb); clear hb; have k0_5 : w2.cell? ⟨xb,5,none⟩ = some (.string ⟨ky.toArray⟩):=F1h.out.cell 0 5 rfl rfl; have k0_6 : w2.cell? ⟨xb,6,none⟩ = some (.string ⟨vl.toArray⟩):=F1h.out.cell 0 6 rfl rfl))))
  all_goals go_wp2_with fail
  all_goals exact HP.out _ _ HE.out F1h.out.b
 ·have HT:=Lib.hid (fun W=>code_Text ky (by omega) W)
  have HE : Hid (X = S1 ++ textW ky):=Lib.hid (by rw [HX.out,HB.out,if_neg (by decide),if_neg (by decide),if_pos rfl])
  have l1:=Ex.text_le q2 (by omega)
  clear HS4 HX HB
  generalize textW ky = T1 at *
  have m1 : S1.length + T1.length ≤ 9223372036854775807:=by omega
  have n1 : (9223372036854775807 < S1.length + T1.length) = False:=by simp; omega
  have k0_0 : wc.cell? ⟨xb,0,none⟩ = some (.int .i64 3):=F1h.out.cell 0 0 rfl rfl; have k0_1 : wc.cell? ⟨xb,1,none⟩ = some (.string ⟨fr.toArray⟩):=F1h.out.cell 0 1 rfl rfl; have k0_2 : wc.cell? ⟨xb,2,none⟩ = some (.int .i64 (q : Int)):=F1h.out.cell 0 2 rfl rfl; have k0_3 : wc.cell? ⟨xb,3,none⟩ = some (.string ⟨dt.toArray⟩):=F1h.out.cell 0 3 rfl rfl; have k0_4 : wc.cell? ⟨xb,4,none⟩ = some (.int .i64 am):=F1h.out.cell 0 4 rfl rfl; have k0_5 : wc.cell? ⟨xb,5,none⟩ = some (.string ⟨ky.toArray⟩):=F1h.out.cell 0 5 rfl rfl; have k0_6 : wc.cell? ⟨xb,6,none⟩ = some (.string ⟨vl.toArray⟩):=F1h.out.cell 0 6 rfl rfl; have k0_7 : wc.cell? ⟨xb,7,none⟩ = some (.slice A mm.length c):=F1h.out.cell 0 7 rfl rfl
  go_wp2_with fail
  refine (HT.out _).mono ?_
  rintro e w2 ⟨rfl,hb⟩
  have F2:=Live.hb F1h hb
  clear hb
  go_wp2_with fail
  exact HP.out _ _ HE.out F2.out.b
 ·have HEn:=Lib.hid (fun W (hW : Below w.heap.size w W)=>power_Encode W mm (fun x hx=>by have:=(Pw.okM_all hm x hx).1; omega) A c ((HRR.out.below hW).more hW.size))
  have hl:=Pw.encM_len hm
  unfold MEncEnd encMo at HEn
  simp only [hm,codeM,if_true] at HEn
  have HT:=Lib.hid (fun W=>code_Text (Pw.encM mm) (by omega) W)
  have HE : Hid (X = S1 ++ textW (Pw.encM mm)):=Lib.hid (by rw [HX.out,HB.out,if_neg (by decide),if_neg (by decide),if_neg (by decide)])
  have l1:=Ex.text_le hl (by omega)
  clear HS4 HX HB hl hm
  generalize Pw.encM mm = eb at *
  generalize textW eb = T1 at *
  have m1 : S1.length + T1.length ≤ 9223372036854775807:=by omega
  have n1 : (9223372036854775807 < S1.length + T1.length) = False:=by simp; omega
  have k0_0 : wc.cell? ⟨xb,0,none⟩ = some (.int .i64 4):=F1h.out.cell 0 0 rfl rfl; have k0_1 : wc.cell? ⟨xb,1,none⟩ = some (.string ⟨fr.toArray⟩):=F1h.out.cell 0 1 rfl rfl; have k0_2 : wc.cell? ⟨xb,2,none⟩ = some (.int .i64 (q : Int)):=F1h.out.cell 0 2 rfl rfl; have k0_3 : wc.cell? ⟨xb,3,none⟩ = some (.string ⟨dt.toArray⟩):=F1h.out.cell 0 3 rfl rfl; have k0_4 : wc.cell? ⟨xb,4,none⟩ = some (.int .i64 am):=F1h.out.cell 0 4 rfl rfl; have k0_5 : wc.cell? ⟨xb,5,none⟩ = some (.string ⟨ky.toArray⟩):=F1h.out.cell 0 5 rfl rfl; have k0_6 : wc.cell? ⟨xb,6,none⟩ = some (.string ⟨vl.toArray⟩):=F1h.out.cell 0 6 rfl rfl; have k0_7 : wc.cell? ⟨xb,7,none⟩ = some (.slice A mm.length c):=F1h.out.cell 0 7 rfl rfl
  go_wp2_with fail
  refine (HEn.out _ F1h.out.b).mono ?_
  rintro e w2 ⟨rfl,hb⟩
  have F2:=Live.hb F1h hb
  clear hb
  go_wp2_with fail
  refine (HT.out _).mono ?_
  rintro e w3 ⟨rfl,hb⟩
  have F3:=Live.hb F2 hb
  clear hb
  go_wp2_with fail
  exact HP.out _ _ HE.out F3.out.b
theorem mk_conv (w : World) (s : List UInt8) (hl : s.length ≤ 100000) : ∃ v w',(convert 9 118 (.string ⟨s.toArray⟩)).run Tryz.prog w = .ok v w' ∧ mkRow w' w.heap.size v s ∧ Below w.heap.size w w':=by
 have h:=run_bytes_of_string w 9 118 5 ⟨s.toArray⟩ Tryz.underlying9 Tryz.underlying118 Tryz.underlying5
 have hs : (ByteArray.mk s.toArray).size = s.length:=by simp [ByteArray.size]
 rw [hs] at h
 have hge:=grownCap_ge w s.length 0 5
 have hm:=grownCap_le_maxLen w s.length 0 5 (by simp only [maxLen]; omega)
 refine ⟨_,_,h,⟨w.heap.size,_,_,_,rfl,Nat.le_refl _,heap_alloc_new w.drew _,fun j hj hc=>by simp only at hc; omega,hge,hm, ?_, ?_⟩,(((Below.refl _ w).drew).alloc (Nat.le_refl _) _)⟩
 ·simp [bytesRow,hs]; omega
 ·simp [bytesRow,bvals]
theorem mkRow.mono {w : World} {b b' : Nat} {v : Value} {l : List UInt8} (h : mkRow w b v l) (hb : b' ≤ b) : mkRow w b' v l:=by
 obtain ⟨g,cap,cur,fz,h1,h2,h3⟩:=h
 exact ⟨g,cap,cur,fz,h1,Nat.le_trans hb h2,h3⟩
theorem mkRow.below {w w' : World} {b : Nat} {v : Value} {l : List UInt8} (h : mkRow w b v l) (hb : Below w.heap.size w w') : mkRow w' b v l:=by
 obtain ⟨g,cap,cur,fz,h1,h2,h3,h4⟩:=h
 exact ⟨g,cap,cur,fz,h1,h2,by rw [hb.block g (Array.getElem?_eq_some_iff.1 h3).1]; exact h3,h4⟩
theorem mkRow.own {w : World} {b : Nat} {v : Value} {l : List UInt8} (h : mkRow w b v l) : ∀ k,v.ownBlock = some k → b ≤ k:=by
 obtain ⟨g,cap,cur,fz,rfl,h2,h3,h4⟩:=h
 intro k hk
 simp [Value.ownBlock] at hk
 omega
theorem mkRow.reads {w : World} {b : Nat} {v : Value} {l : List UInt8} (h : mkRow w b v l) : ∃ A c,v = .slice A l.length c ∧ Reads w w.heap.size 1 A l.length (bvals l):=by
 obtain ⟨g,cap,cur,fz,rfl,h2,h3,_,h5,_,_,h8⟩:=h
 refine ⟨_,_,rfl,by rw [bvals_length]; omega,fun hn=>⟨_,rfl,(Array.getElem?_eq_some_iff.1 h3).1,fun j u hu => ?_⟩⟩
 have ha : (⟨g,0,none⟩ : Addr).add j = ⟨g,j,none⟩:=by unfold Addr.add; split <;> simp_all
 rw [ha,cell_of_row w g j cur _ fz h3]
 rw [← h8,List.getElem?_take] at hu
 split at hu
 ·simpa using hu
 ·cases hu
theorem info_u8 : ∃ i,Tryz.prog.info? 5 = some i ∧ i.zero = some (.int .u8 0) ∧ i.size = 1 ∧ i.bytes = 1:=by
 have h:=info_byte
 cases hi : Tryz.prog.info? 5 with
 | none=>rw [hi] at h; cases h
 | some i =>
  rw [hi] at h
  simp only [Option.map_some,Option.some.injEq,Prod.mk.injEq] at h
  exact ⟨i,rfl,h⟩
theorem wpList_append_mk {ops : Array Oper} {rest : List Oper} {o : Oper} {a : Act} {Q : Exit → Act → World → Prop} (w : World) (hgd : o.guard = none) (sl x : Operand) (ho : o.op = .call { callee:=.builtin .append,args:=#[sl,x],argTypes:=#[118,9] })
  (base : Nat) (v : Value) (l : List UInt8) (hs : a.eval sl = v) (h : mkRow w base v l) (s : List UInt8) (hx : a.eval x = .string ⟨s.toArray⟩) (hn : l.length + s.length ≤ 100000) (hbase : base ≤ w.heap.size)
  (hK : ∀ v' w',mkRow w' base v' (l ++ s) → w.grownBy w' v.ownBlock → wpList Tryz.prog ops Q rest (a.put o.dst v') w') : wpList Tryz.prog ops Q (o :: rest) a w:=by
 obtain ⟨i,hi,hz,h1,h2⟩:=info_u8
 obtain ⟨v',w',hr,q1,q2⟩:=mk_append w base o.type i hi hz h1 h2 v l h s hn hbase
 refine wpList_plain hgd fun K' hK' => ?_
 unfold Oper.wp execOp
 simp only [ho,resolve,invoke,builtin,Sem.run_bind,Sem.run_pure,Result.andThen_ok,List.map_toArray,List.map_cons,List.map_nil,hs,hx,hr]
 exact hK' _ _ (hK v' w' q1 q2)
def ceL (l : List (List UInt8)) : List UInt8:=numW l.length ++ (l.map textW).flatten
set_option maxRecDepth 100000 in
set_option maxHeartbeats 1000000 in
theorem code_ListG (w : World) (l : List (List UInt8)) (h7 : l.length ≤ 100) (h6 : ∀ s ∈ l,s.length ≤ 300) (A : Option Addr) (c : Nat) (HR : Reads w w.heap.size 1 A l.length (strv l)) :
  Calls Tryz.prog 134 #[.slice A l.length c] w (Ret w (.string ⟨(ceL l).toArray⟩)):=by
 have HP : Hid (∀ (s : List UInt8) w',s = ceL l → Below w.heap.size w w' → Ret w (.string ⟨(ceL l).toArray⟩) (.returned (.string ⟨s.toArray⟩)) w'):=Lib.hid (fun s w' h1 h2=>by rw [h1]; exact ⟨rfl,h2⟩)
 have HX : Hid (ceL l = numW l.length ++ (l.map textW).flatten):=Lib.hid rfl
 have HTx : Hid (∀ s,textW s = numW s.length ++ s):=Lib.hid (fun s=>rfl)
 generalize Ret w (.string ⟨(ceL l).toArray⟩) = P at HP ⊢
 generalize ceL l = X at *
 have HLL:=Lib.hid HR
 have H7:=Lib.hid (And.intro h7 h6)
 have HNum:=Lib.hid (fun (n : Nat) (hn : n ≤ 300) W=>code_num n (by omega) W)
 have HNl : Hid (∀ n : Nat,n ≤ 300 → (numW n).length ≤ 9):=Lib.hid (fun n hn=>numW_len n (by omega))
 clear HR h7 h6
 go_enter Tryz.func134,Tryz.ntmps134
 go_wp2_with fail
 refine (HNum.out l.length (by have:=H7.out.1; omega) _).mono ?_
 rintro e w1 ⟨rfl,hb⟩
 have HB1:=Lib.hid hb
 have hnl:=HNl.out l.length (by have:=H7.out.1; omega)
 clear hb
 generalize hNe : numW l.length = N at *
 have HNe:=Lib.hid hNe
 clear hNe
 obtain ⟨v0,w2,hcv,hmk,hb⟩:=mk_conv w1 N (by omega)
 have HM0:=Lib.hid (hmk.mono HB1.out.size)
 have HB2:=Lib.hid (HB1.out.trans (hb.mono HB1.out.size))
 have HN:=Lib.hid hnl
 clear hmk hb hnl
 go_wp2_with fail
 refine wp_loop_ghost_k (fun k a wr => ∀ Φ : Act → Prop,(∀ (s1 s4 s5 s6 s7 s8 s9 s13 s14 s15 s16 s17 s18 s19 s20 s21 s22 s23 s24 s25 s26 : Value) (i : Nat) (t : List UInt8) (v : Value),(i + k = l.length ∧ (t.length ≤ 9 + i * 309 ∧ t = N ++ ((l.take i).map textW).flatten) ∧ mkRow wr w.heap.size v t ∧ Below w.heap.size w wr) → Φ { tmps:=#[.slice A l.length c,s1,.string ⟨#[]⟩,v,s4,s5,s6,s7,s8,s9,.slice A l.length c,.int .i64 (l.length : Int),.int .i64 (i : Int),s13,s14,s15,s16,s17,s18,s19,s20,s21,s22,s23,s24,s25,s26],defers := [] }) → Φ a) (l.length) ?_ ?_
 ·refine fun Φ hΦ=>hΦ _ _ _ _ _ _ _ _ _ _ _ _ _ _ _ _ _ _ _ _ _ (0) (N) (v0) ?_
  exact ⟨by omega,⟨by have:=HN.out; omega,by simp⟩,HM0.out,HB2.out⟩
 ·intro k1 a1 wr1 hI1 J1 K1 hJ1 hK1
  refine hI1 (fun a=>Code.wp _ _ _ a _) ?_
  clear hI1 a1
  intro s0 s1 s2 s3 s4 s5 s6 s7 s8 s9 s10 s11 s12 s13 s14 s15 s16 s17 s18 s19 s20 i t v hrel
  show Code.wp _ _ _ _ _
  obtain ⟨h1,⟨h2,h2e⟩,h3,hb⟩:=hrel
  have HM:=Lib.hid h3
  have HB:=Lib.hid hb
  by_cases hi : i < l.length
  ·obtain ⟨ad,off,hA,hbl,hcell⟩:=str_at HLL.out hi
   subst hA
   have r0:=hcell _ hb
   have hi1 : (i : Int) < l.length:=by omega
   have hi0 : (0 : Int) ≤ i:=by omega
   have hwi : IntKind.i64.wrap ((i : Int) + 1) = (i : Int) + 1:=IntWalk.i64_in _ (by have:=H7.out.1; omega)
   have HSl:=Lib.hid (H7.out.2 _ (List.getElem_mem hi))
   have HI:=Lib.hid (And.intro h1 (And.intro hi h2))
   have HT1 : Hid (t ++ numW l[i].length ++ l[i] = N ++ ((l.take (i + 1)).map textW).flatten):=Lib.hid (by
    rw [List.take_succ_eq_append_getElem hi,List.map_append,List.flatten_append,h2e,List.map_singleton,List.flatten_singleton,HTx.out]
    simp only [List.append_assoc])
   clear h2e
   clear h1 h2 h3 hb hcell hbl
   generalize l[i] = s at *
   clear hi
   have hs9 : s.length ≤ 9223372036854775807:=by have:=HSl.out; omega
   go_wp2_with fail
   refine (HNum.out s.length (by have:=HSl.out; omega) _).mono ?_
   rintro e w3 ⟨rfl,hb⟩
   have HM3:=Lib.hid (HM.out.below hb)
   have HB3:=Lib.hid (HB.out.trans (hb.mono HB.out.size))
   have HSn:=Lib.hid (HNl.out s.length (by have:=HSl.out; omega))
   clear hb HM HB r0
   generalize numW s.length = N2 at *
   go_upto_region 6 with (at_builtin; refine wpList_append_mk _ rfl _ _ rfl w.heap.size v t rfl HM3.out N2 rfl (by have:=HI.out; have:=H7.out.1; have:=HSn.out; omega) HB3.out.size ?_; intro v4 w4 hm4 hg4; have H4:=Lib.hid (And.intro hm4 hg4); clear hm4 hg4)
   have HB4:=Lib.hid (HB3.out.grown H4.out.2 HB3.out.size (fun k e=>HM3.out.own k e))
   have HM4:=Lib.hid H4.out.1
   clear H4 HM3 HB3
   go_wp2_with (at_builtin; refine wpList_append_mk _ rfl _ _ rfl w.heap.size v4 (t ++ N2) rfl HM4.out s rfl (by have:=HI.out; have:=H7.out.1; have:=HSn.out; have:=HSl.out; rw [List.length_append]; omega) HB4.out.size ?_; intro v5 w5 hm5 hg5; have H5:=Lib.hid (And.intro hm5 hg5); clear hm5 hg5)
   refine Handed.intro (l.length - (i + 1)) ?_ (hJ1 _ _ _ (fun Φ hΦ=>hΦ _ _ _ _ _ _ _ _ _ _ _ _ _ _ _ _ _ _ _ _ _ (i + 1) (t ++ N2 ++ s) (v5) ?_))
   ·have:=HI.out; omega
   ·exact ⟨by have:=HI.out; omega,⟨by have:=HI.out; have:=HSn.out; have:=HSl.out; simp only [List.length_append]; omega,HT1.out⟩,H5.out.1,HB4.out.grown H5.out.2 HB4.out.size (fun k e=>HM4.out.own k e)⟩
  ·have hi1 : ((i : Int) < l.length) = False:=by simp; omega
   have HT : Hid (t = X):=Lib.hid (by rw [h2e,HX.out,List.take_of_length_le (by omega)])
   clear h1 h2 h2e h3 hb hi
   obtain ⟨A5,c5,rfl,hr⟩:=HM.out.reads
   have hcv2:=conv_reads wr1 wr1.heap.size A5 t.length c5 t hr
   clear hr HM
   go_wp2_with fail
   exact HP.out t _ HT.out HB.out
set_option maxRecDepth 100000 in
set_option maxHeartbeats 2000000 in
theorem tx_EncodeAll (w : World) (A : Option Addr) (c : Nat) (l : List TxM) (HL : TxsAt w A l) (h8 : l.length ≤ 8) (hf : ∀ p ∈ l,Ex.fineX p.1 = true) :
  Calls Tryz.prog 91 #[.slice A l.length c] w (Ret w (.tuple #[.string ⟨(listW (l.map fun p=>Ex.writX p.1)).toArray⟩,.int .i64 0])):=by
 have HP : Hid (∀ (s : List UInt8) w',listW (l.map fun p=>Ex.writX p.1) = s → Below w.heap.size w w' → Ret w (.tuple #[.string ⟨(listW (l.map fun p=>Ex.writX p.1)).toArray⟩,.int .i64 0]) (.returned (.tuple #[.string ⟨s.toArray⟩,.int .i64 0])) w'):=Lib.hid (fun s w' e h=>by rw [e]; exact ⟨rfl,h⟩)
 generalize Ret w (.tuple #[.string ⟨(listW (l.map fun p=>Ex.writX p.1)).toArray⟩,.int .i64 0]) = P at HP ⊢
 have HLL:=Lib.hid HL
 have HFa:=Lib.hid hf
 have HL8:=Lib.hid h8
 have h8' : ((8 : Int) < l.length) = False:=by simp; omega
 clear HL h8 hf
 go_enter Tryz.func91,Tryz.ntmps91
 go_wp2_with fail
 refine wp_loop_ghost_k (fun k a wr => ∀ Φ : Act → Prop,(∀ (s0 s1 s5 s6 s7 s8 s9 s10 s11 s15 s16 s17 s18 s19 s20 s21 s22 s23 s24 s25 s26 s27 s28 s29 s30 s31 s32 : Value) (i : Nat) (B : Option Addr) (D : List (List UInt8)) (d : Nat),(i + k = l.length ∧ D = (l.take i).map (fun p=>Ex.writX p.1) ∧ D.length = i ∧ wr.ownsRow w.heap.size 9 1 (.slice B D.length d) D.length (strv D) ∧ Below w.heap.size w wr) → Φ { tmps:=#[s0,s1,.string ⟨#[]⟩,.int .i64 0,.slice B D.length d,s5,s6,s7,s8,s9,s10,s11,.slice A l.length c,.int .i64 (l.length : Int),.int .i64 (i : Int),s15,s16,s17,s18,s19,s20,s21,s22,s23,s24,s25,s26,s27,s28,s29,s30,s31,s32],defers := [] }) → Φ a) (l.length) ?_ ?_
 ·refine fun Φ hΦ=>hΦ _ _ _ _ _ _ _ _ _ _ _ _ _ _ _ _ _ _ _ _ _ _ _ _ _ _ _ (0) (none) ([]) (0) ?_
  exact ⟨by omega,rfl,rfl,World.ownsRow_nil _ _ _ _,Below.refl _ _⟩
 ·intro k1 a1 wr1 hI1 J1 K1 hJ1 hK1
  refine hI1 (fun a=>Code.wp _ _ _ a _) ?_
  clear hI1 a1
  intro s0 s1 s2 s3 s4 s5 s6 s7 s8 s9 s10 s11 s12 s13 s14 s15 s16 s17 s18 s19 s20 s21 s22 s23 s24 s25 s26 i B D d hrel
  show Code.wp _ _ _ _ _
  obtain ⟨h1,h3,h4,hD,hb⟩:=hrel
  by_cases hi : i < l.length
  ·have HLi:=Lib.hid (HLL.out.next hb)
   obtain ⟨ad,off,rfl,hbl,hcell⟩:=tx_cells HLi.out.r hi
   obtain ⟨r0,r1,r2,r3,r4,r5,r6,r7⟩:=hcell _ (Below.refl _ _)
   have hi1 : (i : Int) < l.length:=by omega
   have hi0 : (0 : Int) ≤ i:=by omega
   have hwi : IntKind.i64.wrap ((i : Int) + 1) = (i : Int) + 1:=IntWalk.i64_in _ (by have:=HL8.out; omega)
   have ht:=HLi.out.t _ (List.getElem_mem hi)
   have hm:=HLi.out.m _ (List.getElem_mem hi)
   have hx:=HFa.out _ (List.getElem_mem hi)
   have HD1 : Hid (D ++ [Ex.writX l[i].1] = (l.take (i + 1)).map (fun p=>Ex.writX p.1)):=Lib.hid (by rw [List.take_succ_eq_append_getElem hi,List.map_append,h3]; rfl)
   have hD8 : D.length < 8:=by have:=HL8.out; omega
   have HI:=Lib.hid (And.intro h1 (And.intro h4 (And.intro hD hb)))
   clear h1 h3 h4 hD hb hcell hbl
   generalize l[i] = p at *
   obtain ⟨⟨kd,fr,sq,dt,am,ky,vl,mm⟩,mA,mc⟩:=p
   simp only at r0 r1 r2 r3 r4 r5 r6 r7 hm HD1 ht hx
   have HEn:=Lib.hid (fun W (hW : Below wr1.heap.size wr1 W)=>tx_Encode W kd fr sq dt am ky vl mm ht hx mA mc ((hm.below hW).more hW.size))
   clear ht hx hm hi
   generalize Ex.writX ⟨kd,fr,sq,dt,am,ky,vl,mm⟩ = wx at *
   go_upto_region 7 with fail
   have F1:=Live.ha (Lib.hid (Live.start wr1)) #[.int .i64 kd,.string ⟨fr.toArray⟩,.int .i64 sq,.string ⟨dt.toArray⟩,.int .i64 am,.string ⟨ky.toArray⟩,.string ⟨vl.toArray⟩,.slice mA mm.length mc] 80
   generalize wr1.alloc (.cells #[.int .i64 kd,.string ⟨fr.toArray⟩,.int .i64 sq,.string ⟨dt.toArray⟩,.int .i64 am,.string ⟨ky.toArray⟩,.string ⟨vl.toArray⟩,.slice mA mm.length mc] 80) = W1 at F1 ⊢
   generalize wr1.heap.size = xb at F1 ⊢
   clear r0 r1 r2 r3 r4 r5 r6 r7
   have k0_0 : W1.cell? ⟨xb,0,none⟩ = some (.int .i64 kd):=F1.out.cell 0 0 rfl rfl; have k0_1 : W1.cell? ⟨xb,1,none⟩ = some (.string ⟨fr.toArray⟩):=F1.out.cell 0 1 rfl rfl; have k0_2 : W1.cell? ⟨xb,2,none⟩ = some (.int .i64 sq):=F1.out.cell 0 2 rfl rfl; have k0_3 : W1.cell? ⟨xb,3,none⟩ = some (.string ⟨dt.toArray⟩):=F1.out.cell 0 3 rfl rfl; have k0_4 : W1.cell? ⟨xb,4,none⟩ = some (.int .i64 am):=F1.out.cell 0 4 rfl rfl; have k0_5 : W1.cell? ⟨xb,5,none⟩ = some (.string ⟨ky.toArray⟩):=F1.out.cell 0 5 rfl rfl; have k0_6 : W1.cell? ⟨xb,6,none⟩ = some (.string ⟨vl.toArray⟩):=F1.out.cell 0 6 rfl rfl; have k0_7 : W1.cell? ⟨xb,7,none⟩ = some (.slice mA mm.length mc):=F1.out.cell 0 7 rfl rfl
   go_wp2_with fail
   refine (HEn.out _ F1.out.b).mono ?_
   rintro e w2 ⟨rfl,hb⟩
   have F2:=Live.hb F1 hb
   clear hb F1 k0_0 k0_1 k0_2 k0_3 k0_4 k0_5 k0_6 k0_7 HEn
   have O3:=Lib.hid (own_below HI.out.2.2.1 F2.out.b)
   have HB3:=Lib.hid (HI.out.2.2.2.nxt F2.out.b)
   clear F2
   go_wp2_with (at_builtin; refine wpList_append_new w2 9 [.string ⟨wx.toArray⟩] rfl _ _ 26 rfl w.heap.size 1 16 _ info_str Tryz.underlying26 rfl (by decide) (.slice B D.length d) D.length (strv D) rfl O3.out 1 1 rfl rfl (by simp [Value.oneCell']) (by simp only [maxLen]; omega) (by omega) w.heap.size w HB3.out (Nat.le_refl _) HB3.out.size ?_; intro v4 w4 own4 hb4 hg4 _ _; obtain ⟨A4,c4,rfl,_,_,_⟩:=own_form own4; have G4:=Lib.hid (And.intro own4 hb4); clear own4 hb4 hg4)
   have HDl : Hid (D.length + 1 = (D ++ [wx]).length):=Lib.hid (by simp)
   have O4 : Hid (w4.ownsRow w.heap.size 9 1 (.slice A4 (D ++ [wx]).length c4) (D ++ [wx]).length (strv (D ++ [wx]))):=Lib.hid (by have:=G4.out.1; rw [← strv_snoc] at this; rwa [HDl.out] at this)
   rw [HDl.out]
   generalize D ++ [wx] = D2 at *
   refine Handed.intro (l.length - (i + 1)) ?_ (hJ1 _ _ _ (fun Φ hΦ=>hΦ _ _ _ _ _ _ _ _ _ _ _ _ _ _ _ _ _ _ _ _ _ _ _ _ _ _ _ (i + 1) (A4) (D2) (c4) ?_))
   ·have:=HI.out.1; omega
   exact ⟨by have:=HI.out.1; omega,HD1.out,by rw [← HDl.out,HI.out.2.1],O4.out,G4.out.2⟩
  ·have hi1 : ((i : Int) < l.length) = False:=by simp; omega
   have HDe : Hid (D = l.map (fun p=>Ex.writX p.1)):=Lib.hid (by rw [h3,List.take_of_length_le (by omega)])
   have HLs:=Lib.hid (code_ListG wr1 D (by have:=HL8.out; omega) (by
    intro s hs
    rw [HDe.out] at hs
    obtain ⟨p,hp,rfl⟩:=List.mem_map.1 hs
    exact Ex.writX_len (HFa.out p hp)) B d (Reads.of_own hD))
   have HB:=Lib.hid hb
   have HE : Hid (listW (l.map fun p=>Ex.writX p.1) = ceL D):=Lib.hid (by rw [HDe.out]; rfl)
   clear h1 h3 h4 hD hb hi HDe
   generalize ceL D = LD at *
   go_wp2_with fail
   refine HLs.out.mono ?_
   rintro e w2 ⟨rfl,hb⟩
   have HB2:=Lib.hid (HB.out.nxt hb)
   clear hb
   go_wp2_with fail
   exact HP.out _ _ HE.out HB2.out
set_option maxRecDepth 100000 in
theorem tx_Root (w : World) (A : Option Addr) (c : Nat) (l : List TxM) (HL : TxsAt w A l) (h8 : l.length ≤ 8) (hf : ∀ p ∈ l,Ex.fineX p.1 = true) (hT : Tbl w) :
  Calls Tryz.prog 45 #[.slice A l.length c] w (Ret w (.tuple #[.string ⟨(Ex.rootX (l.map (·.1))).toArray⟩,.int .i64 0])):=by
 have HP : Hid (∀ (s : List UInt8) w',Ex.rootX (l.map (·.1)) = s → Below w.heap.size w w' → Ret w (.tuple #[.string ⟨(Ex.rootX (l.map (·.1))).toArray⟩,.int .i64 0]) (.returned (.tuple #[.string ⟨s.toArray⟩,.int .i64 0])) w'):=Lib.hid (fun s w' e h=>by rw [e]; exact ⟨rfl,h⟩)
 generalize Ret w (.tuple #[.string ⟨(Ex.rootX (l.map (·.1))).toArray⟩,.int .i64 0]) = P at HP ⊢
 have HEn:=Lib.hid (tx_EncodeAll w A c l HL h8 hf)
 have hl:=Ex.listX_len (l:=l.map (·.1)) (by intro x hx; obtain ⟨p,hp,rfl⟩:=List.mem_map.1 hx; exact hf p hp) (by rw [List.length_map]; exact h8)
 have HE : Hid (Ex.rootX (l.map (·.1)) = shaW (UInt8.ofNat 3 :: listW (l.map fun p=>Ex.writX p.1))):=Lib.hid (by unfold Ex.rootX; rw [List.map_map]; rfl)
 rw [List.map_map] at hl
 have hl : (listW (l.map fun p=>Ex.writX p.1)).length ≤ 3000:=hl
 generalize listW (l.map fun p=>Ex.writX p.1) = s at *
 have HDg:=Lib.hid (fun W (hW : Below w.heap.size w W)=>digest_Sum W 3 (by decide) (by decide) s (by omega) (hT.next hW))
 generalize shaW (UInt8.ofNat 3 :: s) = d at *
 clear hl hT HL h8 hf
 go_enter Tryz.func45,Tryz.ntmps45
 go_wp2_with fail
 refine HEn.out.mono ?_
 rintro e w1 ⟨rfl,hb⟩
 have HB:=Lib.hid hb
 clear hb
 go_wp2_with fail
 refine (HDg.out _ HB.out).mono ?_
 rintro e w2 ⟨rfl,hb⟩
 have HB2:=Lib.hid (HB.out.nxt hb)
 clear hb
 go_wp2_with fail
 exact HP.out _ _ HE.out HB2.out
theorem genW_ok {l : List Ex.Ac} {set : List Pw.Mem} (h : (Ex.genW l set).2 = 0) : Pw.okM set = true:=by
 unfold Ex.genW at h
 split at h
 ·cases h
 split at h
 ·rename_i h1; exact absurd h h1
 split at h
 ·cases h
 rename_i h1
 simpa using h1
theorem TxsAt.nil (w : World) : TxsAt w none []:=⟨Reads.none_,by simp,by simp,by simp⟩
def NewLEnd (w : World) (l : List Ex.Ac) (set : List Pw.Mem) (e : Ending) (w' : World) : Prop :=
 ∃ v,e = .returned (.tuple #[v,.int .i64 ((Ex.genW l set).2 : Int)]) ∧ Below w.heap.size w w' ∧ ((Ex.genW l set).2 = 0 → ∃ lb g,v = .pointer (some ⟨lb,0,none⟩) ∧ LgAt w' w.heap.size lb g ∧ g.L = [Led.newE (Ex.genW l set).1 set]) ∧ ((Ex.genW l set).2 ≠ 0 → v = .pointer none)
set_option maxRecDepth 100000 in
set_option maxHeartbeats 4000000 in
theorem led_New (w : World) (l : List Ex.Ac) (hs : ∀ x ∈ l,x.1.length ≤ 9223372036854775807) (A : Option Addr) (c : Nat) (HR : Reads w w.heap.size 3 A l.length (acells l)) (set : List Pw.Mem) (hm : ∀ x ∈ set,x.1.length ≤ 9223372036854775807) (B : Option Addr) (d : Nat) (HS : Reads w w.heap.size 2 B set.length (mcells set)) (hT : Tbl w) :
  Calls Tryz.prog 69 #[.slice A l.length c,.slice B set.length d] w (NewLEnd w l set):=by
 have HPe : Hid (∀ (cd : Nat) w',(Ex.genW l set).2 = cd → cd ≠ 0 → Below w.heap.size w w' → NewLEnd w l set (.returned (.tuple #[.pointer none,.int .i64 (cd : Int)])) w'):=Lib.hid (fun cd w' e h1 hb=>by subst e; exact ⟨_,rfl,hb,fun h=>absurd h h1,fun _=>rfl⟩)
 have HPo : Hid (∀ lb g w',(Ex.genW l set).2 = 0 → Below w.heap.size w w' → LgAt w' w.heap.size lb g → g.L = [Led.newE (Ex.genW l set).1 set] → NewLEnd w l set (.returned (.tuple #[.pointer (some ⟨lb,0,none⟩),.int .i64 0])) w'):=Lib.hid (fun lb g w' e hb h1 h2=>⟨_,by rw [e]; rfl,hb,fun _=>⟨lb,g,rfl,h1,h2⟩,fun h=>absurd e h⟩)
 generalize NewLEnd w l set = P at HPe HPo ⊢
 have HG:=Lib.hid (exec_Genesis w l hs A c HR set hm B d HS hT)
 have hg:=Ex.genW_good l set
 have hok:=@genW_ok l set
 generalize Ex.genW l set = gw at *
 obtain ⟨t,cd⟩:=gw
 simp only at HG hg hok HPe HPo
 have HTb:=Lib.hid hT
 have HSR:=Lib.hid HS
 have HMm:=Lib.hid hm
 clear HR hs hT HS hm
 by_cases hc : cd = 0
 rotate_left
 ·have hc1 : ((cd : Int) != 0) = true:=by simp; exact hc
  have HCn:=Lib.hid hc
  clear hok hg hc
  go_enter Tryz.func69,Tryz.ntmps69
  go_wp2_with fail
  refine HG.out.mono ?_
  rintro e w1 ⟨v,rfl,hb,_,hv⟩
  have HB:=Lib.hid hb
  have hv:=hv HCn.out
  subst hv
  clear hb
  go_wp2_with fail
  exact HPe.out cd _ rfl HCn.out HB.out
 subst hc
 have hok:=hok rfl
 have hone:=Led.newE_one hg.1 (by omega) hok
 have HW : Hid (Led.Wf [Led.newE t set]):=Lib.hid (Led.newE_wf hg.1 (by omega) hok)
 have HRt:=Lib.hid (Led.newE_rt t set)
 have HTx:=Lib.hid (fun W (hW : Below w.heap.size w W)=>tx_Root W none 0 [] (TxsAt.nil W) (by simp) (by simp) (HTb.out.next hW))
 have HDg:=Lib.hid (fun W (hW : Below w.heap.size w W)=>power_Digest W set HMm.out B d ((HSR.out.below hW).more hW.size) (HTb.out.next hW))
 have HCl:=Lib.hid (fun W (hW : Below w.heap.size w W)=>clone_mems W set (by have:=Pw.okM_len hok; omega) B d ((HSR.out.below hW).more hW.size))
 have HHd:=Lib.hid (fun W (hW : Below w.heap.size w W)=>hd_Digest W (Led.newH t set) (okH_of hone.ok) none 0 Reads.none_ (HTb.out.next hW))
 have HEq : Hid (Led.newE t set = ⟨⟨0,0,0,true, [],Trie.sumT t, [],Ex.rootX [],Pw.digM set,Pw.digM set, []⟩,Hd.dig (Led.newH t set), [], [],t,set,set⟩):=Lib.hid rfl
 have hde : Led.newH t set = ⟨0,0,0,true, [],Trie.sumT t, [],Ex.rootX [],Pw.digM set,Pw.digM set, []⟩:=rfl
 rw [hde] at HHd
 simp only [List.map_nil,List.length_nil] at HTx HHd
 rw [← hde] at HHd
 generalize Hd.dig (Led.newH t set) = hs at *
 clear hde hone hok hg
 obtain ⟨stt,hst⟩ : ∃ x,Trie.sumT t = x:=⟨_,rfl⟩
 rw [hst] at HHd HEq
 have HSt:=Lib.hid hst
 clear hst
 generalize Ex.rootX [] = rx at *
 generalize Pw.digM set = dg at *
 have SZE : Hid ((Tryz.prog.info? 149).map (·.size) = some 16):=Lib.hid (by kernel_rfl)
 go_enter Tryz.func69,Tryz.ntmps69
 go_wp2_with fail
 refine HG.out.mono ?_
 rintro e w1 ⟨v,rfl,hb,hTr,_⟩
 have F1 : Hid (Live w w1 []):=Lib.hid ⟨hb,by simp,List.Pairwise.nil⟩
 obtain ⟨_,vb,vx,rfl,_⟩:=id (hTr rfl)
 have K1:=Lib.hid (hTr rfl)
 clear hb hTr HG
 go_wp2_with fail
 refine (HTx.out _ F1.out.b).mono ?_
 rintro e w2 ⟨rfl,hb⟩
 have F2:=Live.hb F1 hb
 have K2:=Lib.hid (K1.out.next hb)
 clear hb F1 K1 HTx
 go_wp2_with fail
 refine (HDg.out _ F2.out.b).mono ?_
 rintro e w3 ⟨rfl,hb⟩
 have F3:=Live.hb F2 hb
 have K3:=Lib.hid (K2.out.next hb)
 clear hb F2 K2 HDg
 go_wp2_with fail
 refine (trie_Root w3 t _ K3.out).mono ?_
 rintro e w4 ⟨rfl,rfl⟩
 rw [HSt.out]
 go_upto_region 7 with fail
 have F5:=Live.ha F3 #[.int .i64 0,.int .i64 0,.int .i64 0,.bool true,.string ⟨#[]⟩,.string ⟨stt.toArray⟩,.string ⟨#[]⟩,.string ⟨rx.toArray⟩,.string ⟨dg.toArray⟩,.string ⟨dg.toArray⟩,.slice none 0 0] 65
 have K5:=Lib.hid (K3.out.next ((Below.refl _ w3).alloc (Nat.le_refl _) (.cells #[.int .i64 0,.int .i64 0,.int .i64 0,.bool true,.string ⟨#[]⟩,.string ⟨stt.toArray⟩,.string ⟨#[]⟩,.string ⟨rx.toArray⟩,.string ⟨dg.toArray⟩,.string ⟨dg.toArray⟩,.slice none 0 0] 65)))
 generalize w3.alloc (.cells #[.int .i64 0,.int .i64 0,.int .i64 0,.bool true,.string ⟨#[]⟩,.string ⟨stt.toArray⟩,.string ⟨#[]⟩,.string ⟨rx.toArray⟩,.string ⟨dg.toArray⟩,.string ⟨dg.toArray⟩,.slice none 0 0] 65) = w5 at F5 K5 ⊢
 generalize w3.heap.size = xb at F5 ⊢
 clear F3 K3
 go_wp2_with fail
 refine (HCl.out _ F5.out.b).mono ?_
 rintro e w7 ⟨NA,nc,rfl,hb,hr,hf,_⟩
 have F:=Live.hb F5 hb
 have K7:=Lib.hid (K5.out.next hb)
 have HN:=Lib.hid (And.intro hr (fun a ha=>And.intro (Nat.le_trans F5.out.b.size (hf a ha).1) (hf a ha).2))
 clear hb hr hf F5 K5 HCl
 go_upto_region 8 with fail
 have FX:=Lib.hid (Live.start w7)
 go_cut [13] (fun s wx => ∃ eb,s = .pointer (some ⟨eb,0,none⟩) ∧ Live w wx [(eb,149,#[.int .i64 0,.int .i64 0,.int .i64 0,.bool true,.string ⟨#[]⟩,.string ⟨stt.toArray⟩,.string ⟨#[]⟩,.string ⟨rx.toArray⟩,.string ⟨dg.toArray⟩,.string ⟨dg.toArray⟩,.slice none 0 0,.string ⟨hs.toArray⟩,.slice none 0 0,.slice none 0 0,.pointer (some ⟨vb,0,none⟩),.slice NA set.length nc]),(xb,65,#[.int .i64 0,.int .i64 0,.int .i64 0,.bool true,.string ⟨#[]⟩,.string ⟨stt.toArray⟩,.string ⟨#[]⟩,.string ⟨rx.toArray⟩,.string ⟨dg.toArray⟩,.string ⟨dg.toArray⟩,.slice none 0 0])] ∧ Below w7.heap.size w7 wx)
 case first =>
  refine wp_region_held_drew (S:=fun w'=>w'.cell? ⟨xb,0,none⟩ = some (.int .i64 0) ∧ w'.cell? ⟨xb,1,none⟩ = some (.int .i64 0) ∧ w'.cell? ⟨xb,2,none⟩ = some (.int .i64 0) ∧ w'.cell? ⟨xb,3,none⟩ = some (.bool true) ∧ w'.cell? ⟨xb,4,none⟩ = some (.string ⟨#[]⟩) ∧ w'.cell? ⟨xb,5,none⟩ = some (.string ⟨stt.toArray⟩) ∧ w'.cell? ⟨xb,6,none⟩ = some (.string ⟨#[]⟩) ∧ w'.cell? ⟨xb,7,none⟩ = some (.string ⟨rx.toArray⟩) ∧ w'.cell? ⟨xb,8,none⟩ = some (.string ⟨dg.toArray⟩) ∧ w'.cell? ⟨xb,9,none⟩ = some (.string ⟨dg.toArray⟩) ∧ w'.cell? ⟨xb,10,none⟩ = some (.slice none 0 0)) (by kernel_rfl) (by have F:=live_drew F; exact ⟨F.out.cell 0 0 rfl rfl,F.out.cell 0 1 rfl rfl,F.out.cell 0 2 rfl rfl,F.out.cell 0 3 rfl rfl,F.out.cell 0 4 rfl rfl,F.out.cell 0 5 rfl rfl,F.out.cell 0 6 rfl rfl,F.out.cell 0 7 rfl rfl,F.out.cell 0 8 rfl rfl,F.out.cell 0 9 rfl rfl,F.out.cell 0 10 rfl rfl⟩) (fun hHeld => ?_)
  have F:=live_drew F
  have FX:=live_drew FX
  generalize w7.drew = Wd at F FX hHeld ⊢
  refine tk 0 37 rfl ?_
  try go_frame
  refine tk 1 38 rfl ?_
  try go_frame
  refine tk 3 40 rfl ?_
  try go_frame
  refine tk 4 41 rfl ?_
  try go_frame
  refine rd2 2 6 rfl rfl (fun K hK => ?_) (fun K hK => ?_)
  ·skip
   go_simp
   (with_reducible refine (HHd.out _ ?_).mono ?_)
   ·exact F.out.b
   rintro e Wc ⟨rfl,hb⟩
   have F:=Live.hb F hb
   have FX:=Live.hb FX hb
   clear hb
   go_simp
   refine hK.out _ _ ⟨F.out.cell 0 0 rfl rfl,F.out.cell 0 1 rfl rfl,F.out.cell 0 2 rfl rfl,F.out.cell 0 3 rfl rfl,F.out.cell 0 4 rfl rfl,F.out.cell 0 5 rfl rfl,F.out.cell 0 6 rfl rfl,F.out.cell 0 7 rfl rfl,F.out.cell 0 8 rfl rfl,F.out.cell 0 9 rfl rfl,F.out.cell 0 10 rfl rfl⟩ (fun hHeld => ?_)
   clear hK K
   try go_frame
   refine tk 5 42 rfl ?_
   try go_frame
   refine rd1 6 rfl (fun K hK => ?_)
   go_simp
   have F:=Live.ha F #[.int .i64 0,.int .i64 0,.int .i64 0,.bool false,.string ⟨#[]⟩,.string ⟨#[]⟩,.string ⟨#[]⟩,.string ⟨#[]⟩,.string ⟨#[]⟩,.string ⟨#[]⟩,.slice none 0 0,.string ⟨#[]⟩,.slice none 0 0,.slice none 0 0,.pointer none,.slice none 0 0] 149
   have FX:=Live.ha FX #[.int .i64 0,.int .i64 0,.int .i64 0,.bool false,.string ⟨#[]⟩,.string ⟨#[]⟩,.string ⟨#[]⟩,.string ⟨#[]⟩,.string ⟨#[]⟩,.string ⟨#[]⟩,.slice none 0 0,.string ⟨#[]⟩,.slice none 0 0,.slice none 0 0,.pointer none,.slice none 0 0] 149
   refine hK.out _ _ ⟨F.out.cell 1 0 rfl rfl,F.out.cell 1 1 rfl rfl,F.out.cell 1 2 rfl rfl,F.out.cell 1 3 rfl rfl,F.out.cell 1 4 rfl rfl,F.out.cell 1 5 rfl rfl,F.out.cell 1 6 rfl rfl,F.out.cell 1 7 rfl rfl,F.out.cell 1 8 rfl rfl,F.out.cell 1 9 rfl rfl,F.out.cell 1 10 rfl rfl⟩ (fun hHeld => ?_)
   clear hK K
   try go_frame
   generalize Wc.alloc (.cells #[.int .i64 0,.int .i64 0,.int .i64 0,.bool false,.string ⟨#[]⟩,.string ⟨#[]⟩,.string ⟨#[]⟩,.string ⟨#[]⟩,.string ⟨#[]⟩,.string ⟨#[]⟩,.slice none 0 0,.string ⟨#[]⟩,.slice none 0 0,.slice none 0 0,.pointer none,.slice none 0 0] 149) = Wa at F FX hHeld ⊢
   generalize Wc.heap.size = eb at F FX ⊢
   refine rd1 7 rfl (fun K hK => ?_)
   refine step_store_all rfl 149 _ _ rfl eb 0 #[.int .i64 0,.int .i64 0,.int .i64 0,.bool true,.string ⟨#[]⟩,.string ⟨stt.toArray⟩,.string ⟨#[]⟩,.string ⟨rx.toArray⟩,.string ⟨dg.toArray⟩,.string ⟨dg.toArray⟩,.slice none 0 0,.string ⟨hs.toArray⟩,.slice none 0 0,.slice none 0 0,.pointer (some ⟨vb,0,none⟩),.slice NA set.length nc] rfl rfl (F.out.there 0 16 rfl (by decide)) SZE.out (by simp [Value.oneCell']) ?_
   have F9 : Hid (Live w (Wa.setCells eb 0 (#[.int .i64 0,.int .i64 0,.int .i64 0,.bool true,.string ⟨#[]⟩,.string ⟨stt.toArray⟩,.string ⟨#[]⟩,.string ⟨rx.toArray⟩,.string ⟨dg.toArray⟩,.string ⟨dg.toArray⟩,.slice none 0 0,.string ⟨hs.toArray⟩,.slice none 0 0,.slice none 0 0,.pointer (some ⟨vb,0,none⟩),.slice NA set.length nc] : Array Value).toList) [(eb,149,#[.int .i64 0,.int .i64 0,.int .i64 0,.bool true,.string ⟨#[]⟩,.string ⟨stt.toArray⟩,.string ⟨#[]⟩,.string ⟨rx.toArray⟩,.string ⟨dg.toArray⟩,.string ⟨dg.toArray⟩,.slice none 0 0,.string ⟨hs.toArray⟩,.slice none 0 0,.slice none 0 0,.pointer (some ⟨vb,0,none⟩),.slice NA set.length nc]),(xb,65,#[.int .i64 0,.int .i64 0,.int .i64 0,.bool true,.string ⟨#[]⟩,.string ⟨stt.toArray⟩,.string ⟨#[]⟩,.string ⟨rx.toArray⟩,.string ⟨dg.toArray⟩,.string ⟨dg.toArray⟩,.slice none 0 0])]):=Live.hall F 0 _ rfl rfl
   have FX9 : Hid (Live w7 (Wa.setCells eb 0 (#[.int .i64 0,.int .i64 0,.int .i64 0,.bool true,.string ⟨#[]⟩,.string ⟨stt.toArray⟩,.string ⟨#[]⟩,.string ⟨rx.toArray⟩,.string ⟨dg.toArray⟩,.string ⟨dg.toArray⟩,.slice none 0 0,.string ⟨hs.toArray⟩,.slice none 0 0,.slice none 0 0,.pointer (some ⟨vb,0,none⟩),.slice NA set.length nc] : Array Value).toList) [(eb,149,#[.int .i64 0,.int .i64 0,.int .i64 0,.bool true,.string ⟨#[]⟩,.string ⟨stt.toArray⟩,.string ⟨#[]⟩,.string ⟨rx.toArray⟩,.string ⟨dg.toArray⟩,.string ⟨dg.toArray⟩,.slice none 0 0,.string ⟨hs.toArray⟩,.slice none 0 0,.slice none 0 0,.pointer (some ⟨vb,0,none⟩),.slice NA set.length nc])]):=Live.hall FX 0 _ rfl rfl
   generalize Wa.setCells eb 0 (#[.int .i64 0,.int .i64 0,.int .i64 0,.bool true,.string ⟨#[]⟩,.string ⟨stt.toArray⟩,.string ⟨#[]⟩,.string ⟨rx.toArray⟩,.string ⟨dg.toArray⟩,.string ⟨dg.toArray⟩,.slice none 0 0,.string ⟨hs.toArray⟩,.slice none 0 0,.slice none 0 0,.pointer (some ⟨vb,0,none⟩),.slice NA set.length nc] : Array Value).toList = W9 at F9 FX9 ⊢
   refine hK.out _ _ ⟨F9.out.cell 1 0 rfl rfl,F9.out.cell 1 1 rfl rfl,F9.out.cell 1 2 rfl rfl,F9.out.cell 1 3 rfl rfl,F9.out.cell 1 4 rfl rfl,F9.out.cell 1 5 rfl rfl,F9.out.cell 1 6 rfl rfl,F9.out.cell 1 7 rfl rfl,F9.out.cell 1 8 rfl rfl,F9.out.cell 1 9 rfl rfl,F9.out.cell 1 10 rfl rfl⟩ (fun hHeld => ?_)
   clear hK K
   try go_frame
   refine wpAnyH_done (by kernel_rfl) ?_ _
   go_wp2_with fail
   go_meet
   exact ⟨eb,rfl,F9.out,FX9.out.b⟩
  ·skip
   go_simp
   have F:=Live.ha F #[.int .i64 0,.int .i64 0,.int .i64 0,.bool false,.string ⟨#[]⟩,.string ⟨#[]⟩,.string ⟨#[]⟩,.string ⟨#[]⟩,.string ⟨#[]⟩,.string ⟨#[]⟩,.slice none 0 0,.string ⟨#[]⟩,.slice none 0 0,.slice none 0 0,.pointer none,.slice none 0 0] 149
   have FX:=Live.ha FX #[.int .i64 0,.int .i64 0,.int .i64 0,.bool false,.string ⟨#[]⟩,.string ⟨#[]⟩,.string ⟨#[]⟩,.string ⟨#[]⟩,.string ⟨#[]⟩,.string ⟨#[]⟩,.slice none 0 0,.string ⟨#[]⟩,.slice none 0 0,.slice none 0 0,.pointer none,.slice none 0 0] 149
   refine hK.out _ _ ⟨F.out.cell 1 0 rfl rfl,F.out.cell 1 1 rfl rfl,F.out.cell 1 2 rfl rfl,F.out.cell 1 3 rfl rfl,F.out.cell 1 4 rfl rfl,F.out.cell 1 5 rfl rfl,F.out.cell 1 6 rfl rfl,F.out.cell 1 7 rfl rfl,F.out.cell 1 8 rfl rfl,F.out.cell 1 9 rfl rfl,F.out.cell 1 10 rfl rfl⟩ (fun hHeld => ?_)
   clear hK K
   try go_frame
   generalize Wd.alloc (.cells #[.int .i64 0,.int .i64 0,.int .i64 0,.bool false,.string ⟨#[]⟩,.string ⟨#[]⟩,.string ⟨#[]⟩,.string ⟨#[]⟩,.string ⟨#[]⟩,.string ⟨#[]⟩,.slice none 0 0,.string ⟨#[]⟩,.slice none 0 0,.slice none 0 0,.pointer none,.slice none 0 0] 149) = Wa at F FX hHeld ⊢
   generalize Wd.heap.size = eb at F FX ⊢
   refine rd1 2 rfl (fun K hK => ?_)
   go_simp
   (with_reducible refine (HHd.out _ ?_).mono ?_)
   ·exact F.out.b
   rintro e Wc ⟨rfl,hb⟩
   have F:=Live.hb F hb
   have FX:=Live.hb FX hb
   clear hb
   go_simp
   refine hK.out _ _ ⟨F.out.cell 1 0 rfl rfl,F.out.cell 1 1 rfl rfl,F.out.cell 1 2 rfl rfl,F.out.cell 1 3 rfl rfl,F.out.cell 1 4 rfl rfl,F.out.cell 1 5 rfl rfl,F.out.cell 1 6 rfl rfl,F.out.cell 1 7 rfl rfl,F.out.cell 1 8 rfl rfl,F.out.cell 1 9 rfl rfl,F.out.cell 1 10 rfl rfl⟩ (fun hHeld => ?_)
   clear hK K
   try go_frame
   refine tk 5 42 rfl ?_
   try go_frame
   refine rd1 7 rfl (fun K hK => ?_)
   refine step_store_all rfl 149 _ _ rfl eb 0 #[.int .i64 0,.int .i64 0,.int .i64 0,.bool true,.string ⟨#[]⟩,.string ⟨stt.toArray⟩,.string ⟨#[]⟩,.string ⟨rx.toArray⟩,.string ⟨dg.toArray⟩,.string ⟨dg.toArray⟩,.slice none 0 0,.string ⟨hs.toArray⟩,.slice none 0 0,.slice none 0 0,.pointer (some ⟨vb,0,none⟩),.slice NA set.length nc] rfl rfl (F.out.there 0 16 rfl (by decide)) SZE.out (by simp [Value.oneCell']) ?_
   have F9 : Hid (Live w (Wc.setCells eb 0 (#[.int .i64 0,.int .i64 0,.int .i64 0,.bool true,.string ⟨#[]⟩,.string ⟨stt.toArray⟩,.string ⟨#[]⟩,.string ⟨rx.toArray⟩,.string ⟨dg.toArray⟩,.string ⟨dg.toArray⟩,.slice none 0 0,.string ⟨hs.toArray⟩,.slice none 0 0,.slice none 0 0,.pointer (some ⟨vb,0,none⟩),.slice NA set.length nc] : Array Value).toList) [(eb,149,#[.int .i64 0,.int .i64 0,.int .i64 0,.bool true,.string ⟨#[]⟩,.string ⟨stt.toArray⟩,.string ⟨#[]⟩,.string ⟨rx.toArray⟩,.string ⟨dg.toArray⟩,.string ⟨dg.toArray⟩,.slice none 0 0,.string ⟨hs.toArray⟩,.slice none 0 0,.slice none 0 0,.pointer (some ⟨vb,0,none⟩),.slice NA set.length nc]),(xb,65,#[.int .i64 0,.int .i64 0,.int .i64 0,.bool true,.string ⟨#[]⟩,.string ⟨stt.toArray⟩,.string ⟨#[]⟩,.string ⟨rx.toArray⟩,.string ⟨dg.toArray⟩,.string ⟨dg.toArray⟩,.slice none 0 0])]):=Live.hall F 0 _ rfl rfl
   have FX9 : Hid (Live w7 (Wc.setCells eb 0 (#[.int .i64 0,.int .i64 0,.int .i64 0,.bool true,.string ⟨#[]⟩,.string ⟨stt.toArray⟩,.string ⟨#[]⟩,.string ⟨rx.toArray⟩,.string ⟨dg.toArray⟩,.string ⟨dg.toArray⟩,.slice none 0 0,.string ⟨hs.toArray⟩,.slice none 0 0,.slice none 0 0,.pointer (some ⟨vb,0,none⟩),.slice NA set.length nc] : Array Value).toList) [(eb,149,#[.int .i64 0,.int .i64 0,.int .i64 0,.bool true,.string ⟨#[]⟩,.string ⟨stt.toArray⟩,.string ⟨#[]⟩,.string ⟨rx.toArray⟩,.string ⟨dg.toArray⟩,.string ⟨dg.toArray⟩,.slice none 0 0,.string ⟨hs.toArray⟩,.slice none 0 0,.slice none 0 0,.pointer (some ⟨vb,0,none⟩),.slice NA set.length nc])]):=Live.hall FX 0 _ rfl rfl
   generalize Wc.setCells eb 0 (#[.int .i64 0,.int .i64 0,.int .i64 0,.bool true,.string ⟨#[]⟩,.string ⟨stt.toArray⟩,.string ⟨#[]⟩,.string ⟨rx.toArray⟩,.string ⟨dg.toArray⟩,.string ⟨dg.toArray⟩,.slice none 0 0,.string ⟨hs.toArray⟩,.slice none 0 0,.slice none 0 0,.pointer (some ⟨vb,0,none⟩),.slice NA set.length nc] : Array Value).toList = W9 at F9 FX9 ⊢
   refine hK.out _ _ ⟨F9.out.cell 1 0 rfl rfl,F9.out.cell 1 1 rfl rfl,F9.out.cell 1 2 rfl rfl,F9.out.cell 1 3 rfl rfl,F9.out.cell 1 4 rfl rfl,F9.out.cell 1 5 rfl rfl,F9.out.cell 1 6 rfl rfl,F9.out.cell 1 7 rfl rfl,F9.out.cell 1 8 rfl rfl,F9.out.cell 1 9 rfl rfl,F9.out.cell 1 10 rfl rfl⟩ (fun hHeld => ?_)
   clear hK K
   try go_frame
   refine wpAnyH_done (by kernel_rfl) ?_ _
   go_wp2_with fail
   go_meet
   exact ⟨eb,rfl,F9.out,FX9.out.b⟩
 case rest =>
 obtain ⟨eb,rfl,hF,hb7⟩:=hcut
 have F9:=Lib.hid hF
 have K9:=Lib.hid (K7.out.next hb7)
 have N9:=Lib.hid (HN.out.1.below hb7 |>.more hb7.size)
 have HN2:=Lib.hid HN.out.2
 have HS9:=Lib.hid hb7.size
 clear hF hb7 F FX K7 HN HHd
 obtain ⟨x,hx⟩ : ∃ x : LeM,x = ⟨Led.newE t set, [],none,0,none,0,none,0,.pointer (some ⟨vb,0,none⟩),NA,nc⟩:=⟨_,rfl⟩
 have HXE:=Lib.hid hx
 have hpl : lcell x = [.int .i64 0,.int .i64 0,.int .i64 0,.bool true,.string ⟨#[]⟩,.string ⟨stt.toArray⟩,.string ⟨#[]⟩,.string ⟨rx.toArray⟩,.string ⟨dg.toArray⟩,.string ⟨dg.toArray⟩,.slice none 0 0,.string ⟨hs.toArray⟩,.slice none 0 0,.slice none 0 0,.pointer (some ⟨vb,0,none⟩),.slice NA set.length nc]:=by rw [hx]; unfold lcell; rw [HEq.out]; rfl
 rw [← hpl] at F9
 obtain ⟨pl,hpe⟩ : ∃ p,lcell x = p:=⟨_,rfl⟩
 have HPE:=Lib.hid hpe
 have HL16 : Hid (pl.length = 16):=Lib.hid (by rw [← hpe]; rfl)
 rw [hpe] at F9
 clear hx hpl hpe
 have RG : wc.rangeAt eb 0 pl:=range_of_blk (F9.out.blk 0 rfl)
 have SZM : (Tryz.prog.info? 149).map (·.size) = some pl.length:=by rw [HL16.out]; exact SZE.out
 have hsz:=HL16.out
 go_wp2_with ((with_reducible refine at_load 43 ?_); refine wpList_load_mid rfl 149 _ rfl eb 0 rfl pl _ RG Tryz.underlying149 rfl SZM ?_)
 generalize hF : List.foldl _ _ pl.zipIdx = cs
 have hF2 : cs = pl.toArray:=hF.symm.trans (foldl_set pl [.int .i64 0,.int .i64 0,.int .i64 0,.bool false,.string ⟨#[]⟩,.string ⟨#[]⟩,.string ⟨#[]⟩,.string ⟨#[]⟩,.string ⟨#[]⟩,.string ⟨#[]⟩,.slice none 0 0,.string ⟨#[]⟩,.slice none 0 0,.slice none 0 0,.pointer none,.slice none 0 0] [] (by rw [HL16.out]; rfl))
 subst hF2
 have hgb : Below wc.heap.size wc ((wc.alloc (.cells pl.toArray 149)).alloc (.cells #[.slice (some ⟨wc.heap.size,0,none⟩) 1 1,.slice NA set.length nc] 147)):=((Below.refl _ wc).alloc (Nat.le_refl _) _).alloc (by rw [World.size_alloc]; omega) _
 have F10:=Live.ha (Live.ha F9 pl.toArray 149) #[.slice (some ⟨wc.heap.size,0,none⟩) 1 1,.slice NA set.length nc] 147
 have hown:=World.ownsRow_lit (e:=149) (size:=16) (base:=w.heap.size) wc pl.toArray 1 F9.out.b.size (by simp only [maxLen]; omega) (by simpa using HL16.out)
 have hown:=hown.alloc (.cells #[.slice (some ⟨wc.heap.size,0,none⟩) 1 1,.slice NA set.length nc] 147)
 simp only [World.size_alloc] at F10
 have hwz:=F9.out.b.size
 have hnz:=HN2.out
 have hsz9:=HS9.out
 have hoff : ∀ b,wc.heap.size ≤ b → offA NA b:=fun b hb a ha e=>by have h5:=(hnz a ha).2; omega
 generalize World.alloc (World.alloc wc _) _ = W2 at hgb F10 hown ⊢
 have hr : Reads W2 W2.heap.size 2 NA set.length (mcells set):=(N9.out.below hgb).more hgb.size
 refine HPo.out (wc.heap.size + 1) ⟨[x],some ⟨wc.heap.size,0,none⟩,1,set,NA,nc⟩ _ (by first | exact trivial | rfl) F10.out.b ?_ ?_
 rotate_left
 ·rw [HXE.out]; rfl
 have hL : (LgM.L ⟨[x],some ⟨wc.heap.size,0,none⟩,1,set,NA,nc⟩) = [Led.newE t set]:=by rw [HXE.out]; rfl
 have hown2 : W2.ownsRow w.heap.size 149 16 (.slice (some ⟨wc.heap.size,0,none⟩) 1 1) 1 (lcells [x]):=by simpa [lcells,HPE.out] using hown
 refine { blk:=F10.out.blk 0 rfl,r:=Reads.of_own hown2,ok := ?_,nr:=hr,wf:=by rw [hL]; exact HW.out,rt:=by rw [hL]; intro e he; rw [List.mem_singleton] at he; subst he; exact HRt.out,nx:=⟨Led.newE t set,by rw [hL]; rfl,by rw [HEq.out]⟩,own:=hown2,lo:=by omega,off := ?_,noff:=⟨(hoff _ (by omega)).w _,fun k hk=>(hoff _ (by have h5 : wc.heap.size = k:=Option.some.inj hk; omega)).w _⟩ }
 ·intro e he
  rw [List.mem_singleton] at he
  subst he
  rw [HXE.out]
  have hK:=K9.out.next hgb
  have hEq:=HEq.out
  refine ⟨?_,TxsAt.nil _, ?_, ?_, ?_, ?_⟩
  ·simp only [hEq]; exact Reads.none_
  ·simp only [hEq]; rfl
  ·simp only [hEq]; exact Reads.none_
  ·simp only [hEq]; exact hr
  ·simp only [hEq]; exact hK
 ·intro e he
  rw [List.mem_singleton] at he
  subst he
  rw [HXE.out]
  have hx : ∀ b,wc.heap.size ≤ b → LeM.woff ⟨Led.newE t set, [],none,0,none,0,none,0,.pointer (some ⟨vb,0,none⟩),NA,nc⟩ b:=fun b hb=>⟨(by intro _ a ha; cases ha),(by intro _ a ha; cases ha),(by intro _ a ha; cases ha),(hoff b hb).w _,(by intro q hq; cases hq)⟩
  exact ⟨hx _ (by omega),fun k hk=>hx _ (by have h5 : wc.heap.size = k:=Option.some.inj hk; omega)⟩
end Go.Proofs.YtnelhjfjkkdoaaaGreatDoor
