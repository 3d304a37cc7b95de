import Derived.Test.YtomnlhbioijfhaaGreatDoorJ32
import Derived.Test.YtomnlhbioijfhaaGreatDoorJ22
import Derived.Test.YtomnlhbioijfhaaGreatDoorJ30
import Derived.Test.YtomnlhbioijfhaaGreatDoorJ06
set_option linter.unusedSimpArgs false
set_option linter.unusedVariables false
namespace Go.Proofs.YtomnlhbioijfhaaGreatDoor
open Go.RowKit Go.Instr
attribute [local go_sem] ByteArray.mk_append_mk
theorem ref04_Tagged (w : World) (tag : Nat) (h2 : tag ≤ 255) (l : List UInt8) (hl : l.length ≤ 999999) :
  Calls Tryz.prog 83 #[.int .i64 (tag : Int),.string ⟨l.toArray⟩] w fun e w'=>e = .returned (.string ⟨(shaW (UInt8.ofNat tag :: l)).toArray⟩) ∧ Below w.heap.size w w':=by
 have HS : Hid (∀ W,Calls Tryz.prog 118 #[.string ⟨(UInt8.ofNat tag :: l).toArray⟩] W fun e w'=>e = .returned (.string ⟨(shaW (UInt8.ofNat tag :: l)).toArray⟩) ∧ Below W.heap.size W w'):=Lib.hid (fun W=>rsha_Sum (UInt8.ofNat tag :: l) (by simp; omega) W)
 have HP : Hid (∀ S w',shaW (UInt8.ofNat tag :: l) = S → Below w.heap.size w w' → (fun e w'=>e = Ending.returned (.string ⟨(shaW (UInt8.ofNat tag :: l)).toArray⟩) ∧ Below w.heap.size w w') (Ending.returned (.string ⟨S.toArray⟩)) w'):=Lib.hid (fun S W' e a2=>⟨by rw [e],a2⟩)
 generalize (fun e w'=>e = Ending.returned (.string ⟨(shaW (UInt8.ofNat tag :: l)).toArray⟩) ∧ Below w.heap.size w w') = P at HP ⊢
 have hw : IntKind.u8.wrap (tag : Int) = (tag : Int):=IntWalk.u8_in _ (by omega)
 have cv:=conv1 w (tag : Int) (by omega) (by omega)
 rw [Int.toNat_natCast] at cv
 have hlI : (l.length : Int) ≤ 999999:=by omega
 go_enter Tryz.func83,Tryz.ntmps83
 go_wp2_with fail
 clear cv
 refine (HS.out _).mono ?_
 rintro e w1 ⟨rfl,hb1⟩
 have HQ:=Lib.hid (HP.out _ w1 rfl (Below.nxt (by go_grown) hb1))
 clear hb1 HS HP
 generalize shaW (UInt8.ofNat tag :: l) = S at *
 go_wp2_with fail
 exact HQ.out
end Go.Proofs.YtomnlhbioijfhaaGreatDoor
namespace Go.Proofs.YtomnlhbioijfhaaGreatDoor
open Go.RowKit Go.Instr
attribute [local go_sem] ba_get ByteArray.mk_append_mk
set_option maxRecDepth 100000 in
set_option maxHeartbeats 1000000 in
theorem ref05_Encode (w : World) (l : List Pw.Mem) (hs : ∀ x ∈ l,x.1.length ≤ 9223372036854775807) (A : Option Addr) (c : Nat) (HR : Reads w w.heap.size 2 A l.length (mcells l)) :
  Calls Tryz.prog 98 #[.slice A l.length c] w (MEncEnd w l):=by
 have HCk:=Lib.hid (ref05_Check w l hs A c HR)
 cases hok : Pw.okM l with
 | false =>
  have HP : Hid (∀ w',Below w.heap.size w w' → MEncEnd w l (.returned (.tuple #[.string ⟨#[]⟩,.int .i64 50])) w'):=Lib.hid (fun w' h=>by
   unfold MEncEnd encMo
   rw [hok]; exact ⟨rfl,h⟩)
  generalize MEncEnd w l = P at HP ⊢
  rw [hok] at HCk
  simp only [codeM,Bool.false_eq_true,if_false] at HCk
  clear HR hs hok
  go_enter Tryz.func98,Tryz.ntmps98
  go_wp2_with fail
  refine HCk.out.mono ?_
  rintro q w1 ⟨rfl,hb⟩
  have HB:=Lib.hid hb
  clear hb
  go_wp2_with fail
  exact HP.out _ HB.out
 | true =>
  have hlen:=(Pw.okM_len hok).2
  have hall:=Pw.okM_all hok
  have HP : Hid (∀ s w',Pw.encM l = s → Below w.heap.size w w' → MEncEnd w l (.returned (.tuple #[.string ⟨s.toArray⟩,.int .i64 0])) w'):=Lib.hid (fun s w' e h=>by
   unfold MEncEnd encMo
   rw [hok,if_pos rfl,e]; exact ⟨rfl,h⟩)
  generalize MEncEnd w l = P at HP ⊢
  rw [hok] at HCk
  simp only [codeM,if_true] at HCk
  have HRR:=Lib.hid HR
  have HA:=Lib.hid hall
  have HL:=Lib.hid hlen
  have HNum:=Lib.hid (fun W=>ref02_Number l.length (by omega) W)
  clear HR hs hok hall
  go_enter Tryz.func98,Tryz.ntmps98
  go_wp2_with fail
  refine HCk.out.mono ?_
  rintro q w1 ⟨rfl,hb⟩
  have HB:=Lib.hid hb
  clear hb
  go_wp2_with fail
  refine (HNum.out _).mono ?_
  rintro q w2 ⟨rfl,hb⟩
  have HB2:=Lib.hid (HB.out.nxt hb)
  clear hb HB HCk HNum hlen
  obtain ⟨S0,hS0⟩ : ∃ S0,numW l.length = S0:=⟨_,rfl⟩
  have HS0:=Lib.hid hS0
  rw [hS0]
  clear hS0
  go_wp2_with fail
  refine wp_loop_ghost_k (fun k a wr => ∀ Φ : Act → Prop,(∀ (s1 s2 s3 s6 s7 s8 s9 s10 s11 s12 s13 s14 s15 s16 s17 s18 s19 s20 s21 s22 s23 s24 s25 s26 s27 s28 s29 s30 s31 s32 s33 : Value) (i : Nat) (S : List UInt8),(i + k = l.length ∧ S = numW l.length ++ ((l.take i).map Pw.memB).flatten ∧ S.length ≤ 9 + 24 * i ∧ Below w.heap.size w wr) → Φ { tmps:=#[.slice A l.length c,s1,s2,s3,.string ⟨S.toArray⟩,.int .i64 (i : Int),s6,s7,s8,s9,s10,s11,s12,s13,s14,s15,s16,s17,s18,s19,s20,s21,s22,s23,s24,s25,s26,s27,s28,s29,s30,s31,s32,s33],defers := [] }) → Φ a) (l.length) ?_ ?_
  ·refine fun Φ hΦ=>hΦ _ _ _ _ _ _ _ _ _ _ _ _ _ _ _ _ _ _ _ _ _ _ _ _ _ _ _ _ _ _ _ (0) (S0) ?_
   exact ⟨by omega,by rw [HS0.out]; simp,by rw [← HS0.out]; have:=numW_len l.length (by have:=HL.out; omega); omega,HB2.out⟩
  ·intro k1 a1 wr1 hI1 J1 K1 hJ1 hK1
   refine hI1 (fun a=>Code.wp _ _ _ a _) ?_
   clear hI1 a1
   intro s0 s1 s2 s3 s4 s5 s6 s7 s8 s9 s10 s11 s12 s13 s14 s15 s16 s17 s18 s19 s20 s21 s22 s23 s24 s25 s26 s27 s28 s29 s30 i S hrel
   show Code.wp _ _ _ _ _
   obtain ⟨h1,h2,h3,hb⟩:=hrel
   by_cases hi : i < l.length
   ·obtain ⟨ad,off,rfl,hbl,hcell⟩:=mem_cells HRR.out hi
    obtain ⟨r0,r1⟩:=hcell _ hb
    have hi1 : (i : Int) < l.length:=by omega
    have hi0 : (0 : Int) ≤ i:=by omega
    obtain ⟨a1,a2,a3,a4⟩:=HA.out _ (List.getElem_mem hi)
    have HI:=Lib.hid (And.intro h1 (And.intro hb h3))
    have HN:=Lib.hid (show S ++ Pw.memB l[i] = numW l.length ++ ((l.take (i + 1)).map Pw.memB).flatten by rw [flat_take l i hi,h2,List.append_assoc])
    have hi8 : i < 8:=by have:=HL.out; omega
    have HCc:=Lib.hid hcell
    clear h1 hb hcell hbl h2
    generalize l[i] = x at *
    obtain ⟨nm,pw⟩:=x
    simp only at a1 a3 a4 r0 r1
    obtain ⟨n,rfl⟩:=Int.eq_ofNat_of_zero_le (show 0 ≤ pw by omega)
    have HNm : Hid (∀ W,Calls Tryz.prog 97 #[.int .i64 (n : Int)] W (Ret W (.string ⟨(numW n).toArray⟩))):=Lib.hid (fun W=>ref02_Number n (by omega) W)
    have HTx : Hid (∀ W,Calls Tryz.prog 133 #[.string ⟨nm.toArray⟩] W (Ret W (.string ⟨(textW nm).toArray⟩))):=Lib.hid (fun W=>ref02_Text nm (by omega) W)
    have HLl : Hid ((textW nm).length ≤ 15 ∧ (numW n).length ≤ 9 ∧ (Pw.memB (nm,(n : Int))).length ≤ 24):=Lib.hid ⟨by rw [textW,List.length_append]; have:=numW_len nm.length (by omega); omega,numW_len n (by omega),Pw.memB_len a1 a3 a4⟩
    have HM : Hid (Pw.memB (nm,(n : Int)) = textW nm ++ numW n):=Lib.hid rfl
    clear a1 a2 a3 a4
    obtain ⟨l1,l2,l3⟩:=HLl.out
    rw [HM.out] at HN l3
    clear HLl HM
    generalize textW nm = X at *
    generalize numW n = Y at *
    rw [List.length_append] at l3
    have n1 : (9223372036854775807 < S.length + X.length) = False:=by simp; omega
    have n2 : (9223372036854775807 < S.length + X.length + Y.length) = False:=by simp; omega
    have n3 : (9223372036854775807 < S.length + (X.length + Y.length)) = False:=by simp; omega
    have m1 : S.length + X.length ≤ 9223372036854775807:=by omega
    have m2 : S.length + X.length + Y.length ≤ 9223372036854775807:=by omega
    have m3 : S.length + (X.length + Y.length) ≤ 9223372036854775807:=by omega
    have m4 : (S ++ (X ++ Y)).length ≤ 9 + 24 * (i + 1):=by rw [List.length_append,List.length_append]; omega
    have HM4:=Lib.hid m4
    clear m4 l1 l2 l3 h3
    go_upto_region 7 with fail
    have F:=Lib.hid (Live.start wr1)
    go_region_held3 (fun w'=>w'.cell? ⟨ad,off + i * 2,none⟩ = some (.string ⟨nm.toArray⟩) ∧ w'.cell? ⟨ad,off + i * 2 + 1,none⟩ = some (.int .i64 (n : Int))) (first | go_keep | (refine ⟨?_, ?_⟩ <;> assumption)) (first | (go_at_call 97; ((with_reducible refine (HNm.out _).mono ?_); (rintro e w1 ⟨rfl,hb⟩; (first | have F:=Live.hb F hb | have F:=Live.hbd F hb); clear hb; obtain ⟨r0,r1⟩:=HCc.out _ (HI.out.2.1.nxt F.out.b)))) | (go_at_call 133; ((with_reducible refine (HTx.out _).mono ?_); (rintro e w1 ⟨rfl,hb⟩; (first | have F:=Live.hb F hb | have F:=Live.hbd F hb); clear hb; obtain ⟨r0,r1⟩:=HCc.out _ (HI.out.2.1.nxt F.out.b)))))
    all_goals go_wp2_with fail
    all_goals
     refine Handed.intro (l.length - (i + 1)) ?_ (hJ1 _ _ _ (fun Φ hΦ=>hΦ _ _ _ _ _ _ _ _ _ _ _ _ _ _ _ _ _ _ _ _ _ _ _ _ _ _ _ _ _ _ _ (i + 1) (S ++ (X ++ Y)) ?_))
     ·have:=HI.out.1; omega
     exact ⟨by have:=HI.out.1; omega,HN.out,HM4.out,HI.out.2.1.nxt F.out.b⟩
   ·have hi1 : ((i : Int) < l.length) = False:=by simp; omega
    have HY : Hid (Pw.encM l = S):=Lib.hid (by rw [h2,List.take_of_length_le (by omega)]; rfl)
    have HI:=Lib.hid hb
    clear h1 h2 h3 hb hi
    go_wp2_with fail
    exact HP.out _ _ HY.out HI.out
set_option maxRecDepth 100000 in
theorem ref05_Digest (w : World) (l : List Pw.Mem) (hs : ∀ x ∈ l,x.1.length ≤ 9223372036854775807) (A : Option Addr) (c : Nat) (HR : Reads w w.heap.size 2 A l.length (mcells l)) :
  Calls Tryz.prog 57 #[.slice A l.length c] w (Ret w (.string ⟨(Pw.digM l).toArray⟩)):=by
 have HEn:=Lib.hid (ref05_Encode w l hs A c HR)
 unfold MEncEnd encMo at HEn
 cases hok : Pw.okM l with
 | false =>
  have HP : Hid (∀ w',Below w.heap.size w w' → Ret w (.string ⟨(Pw.digM l).toArray⟩) (.returned (.string ⟨#[]⟩)) w'):=Lib.hid (fun w' h=>by
   unfold Ret Pw.digM
   rw [hok]; exact ⟨rfl,h⟩)
  generalize Ret w (.string ⟨(Pw.digM l).toArray⟩) = P at HP ⊢
  rw [hok] at HEn
  simp only [codeM,Bool.false_eq_true,if_false] at HEn
  clear HR hs hok
  go_enter Tryz.func57,Tryz.ntmps57
  go_wp2_with fail
  refine HEn.out.mono ?_
  rintro q w1 ⟨rfl,hb⟩
  have HB:=Lib.hid hb
  clear hb
  go_wp2_with fail
  exact HP.out _ HB.out
 | true =>
  have HP : Hid (∀ w',Below w.heap.size w w' → Ret w (.string ⟨(Pw.digM l).toArray⟩) (.returned (.string ⟨(shaW (4 :: Pw.encM l)).toArray⟩)) w'):=Lib.hid (fun w' h=>by
   unfold Ret Pw.digM
   rw [hok,if_pos rfl]; exact ⟨rfl,h⟩)
  generalize Ret w (.string ⟨(Pw.digM l).toArray⟩) = P at HP ⊢
  have hel:=Pw.encM_len hok
  rw [hok] at HEn
  simp only [codeM,if_true] at HEn
  have HD:=Lib.hid (fun (W : World)=>ref04_Tagged W 4 (by omega) (Pw.encM l) (by omega))
  rw [show UInt8.ofNat 4 = 4 from rfl] at HD
  generalize shaW (4 :: Pw.encM l) = sm at *
  generalize Pw.encM l = en at *
  clear HR hs hok hel
  go_enter Tryz.func57,Tryz.ntmps57
  go_wp2_with fail
  refine HEn.out.mono ?_
  rintro q w1 ⟨rfl,hb⟩
  have HB:=Lib.hid hb
  clear hb
  go_wp2_with fail
  refine (HD.out _).mono ?_
  rintro q w2 ⟨rfl,hb⟩
  have HB2:=Lib.hid (HB.out.nxt hb)
  clear hb
  go_wp2_with fail
  exact HP.out _ HB2.out
def RRd (w : World) (g : Nat) (s : List UInt8 × Nat) : Prop:=Blk w g 133 #[.string ⟨s.1.toArray⟩,.int .i64 (s.2 : Int)] ∧ s.1.length ≤ 1000000
def RRdEnd (w : World) (g : Nat) (v : Value) (s : List UInt8 × Nat) (e : Ending) (w' : World) : Prop:=e = .returned v ∧ RRd w' g s ∧ w.grownBy w' (some g)
theorem grown_of_below {a b c : World} {g : Nat} (h : Below a.heap.size a b) (hg : b.grownBy c (some g)) : a.grownBy c (some g) :=
 ⟨hg.os.trans h.os,hg.tape.trans h.tape,hg.output.trans h.output,Nat.le_trans h.size hg.size,fun k hk hne=>(hg.block k (Nat.lt_of_lt_of_le hk h.size) hne).trans (h.block k hk)⟩
set_option maxRecDepth 100000 in
set_option maxHeartbeats 1000000 in
theorem ref02_Num (w : World) (g : Nat) (s : List UInt8 × Nat) (h : RRd w g s) :
  Calls Tryz.prog 69 #[.pointer (some ⟨g,0,none⟩)] w (RRdEnd w g (.int .i64 ((numS s).1 : Int)) (numS s).2):=by
 obtain ⟨l,c⟩:=s
 obtain ⟨hB,hl⟩:=h
 simp only at hB hl
 have HP : Hid (∀ (n : Nat) s' w',numS (l,c) = (n,s') → RRd w' g s' → w.grownBy w' (some g) → RRdEnd w g (.int .i64 ((numS (l,c)).1 : Int)) (numS (l,c)).2 (.returned (.int .i64 (n : Int))) w'):=Lib.hid (fun n s' w' e h1 h2=>by rw [e]; exact ⟨rfl,h1,h2⟩)
 generalize RRdEnd w g (.int .i64 ((numS (l,c)).1 : Int)) (numS (l,c)).2 = P at HP ⊢
 have HB:=Lib.hid hB
 have HL:=Lib.hid hl
 have c0 : w.cell? ⟨g,0,none⟩ = some (.string ⟨l.toArray⟩):=hB.cell 0
 have c1 : w.cell? ⟨g,1,none⟩ = some (.int .i64 (c : Int)):=hB.cell 1
 by_cases hc : c = 0
 ·subst hc
  have HT:=Lib.hid (ref02_take l hl w)
  have HS : Hid (numS (l,0) = if (numT l).2.2 = 0 then ((numT l).1,((numT l).2.1,0)) else (0,(l,(numT l).2.2))):=Lib.hid (by simp [numS])
  have HLn : Hid ((numT l).2.1.length ≤ l.length):=Lib.hid (by
   cases l with
   | nil=>simp [numT]
   | cons a b =>
    rw [numT_cons]
    split
    ·simp
    split
    ·simp
    split
    ·simp
    ·simp; omega)
  generalize numT l = Y at *
  obtain ⟨n,rest,e⟩:=Y
  simp only at HS HLn
  clear hB hl
  by_cases he : e = 0
  ·subst he
   rw [if_pos rfl] at HS
   go_enter Tryz.func69,Tryz.ntmps69
   go_wp2_with fail
   refine HT.out.mono ?_
   rintro e w1 ⟨rfl,hb⟩
   have HB1:=Lib.hid (HB.out.below hb HB.out.lt)
   have HBl:=Lib.hid hb
   have f0 : w1.frozen? ⟨g,0,none⟩ = false:=HB1.out.frozen 0
   have f1 : w1.frozen? ⟨g,1,none⟩ = false:=HB1.out.frozen 1
   have d0 : w1.cell? ⟨g,0,none⟩ = some (.string ⟨l.toArray⟩):=HB1.out.cell 0
   have d1 : w1.cell? ⟨g,1,none⟩ = some (.int .i64 0):=HB1.out.cell 1
   clear hb c0 c1
   go_wp2
   exact HP.out _ _ _ HS.out ⟨(HB1.out.set_ 1 (.int .i64 0)).set_ 0 (.string ⟨rest.toArray⟩),Nat.le_trans HLn.out HL.out⟩ (grown_of_below HBl.out (grown_set0 (grown_set0 (World.grownBy.refl _ _) _ _) _ _))
  ·rw [if_neg he] at HS
   have he1 : ((e : Int) != 0) = true:=by simp; exact he
   clear he
   go_enter Tryz.func69,Tryz.ntmps69
   go_wp2_with fail
   refine HT.out.mono ?_
   rintro e w1 ⟨rfl,hb⟩
   have HB1:=Lib.hid (HB.out.below hb HB.out.lt)
   have HBl:=Lib.hid hb
   have f1 : w1.frozen? ⟨g,1,none⟩ = false:=HB1.out.frozen 1
   have d1 : w1.cell? ⟨g,1,none⟩ = some (.int .i64 0):=HB1.out.cell 1
   clear hb c0 c1
   go_wp2
   exact HP.out 0 _ _ HS.out ⟨HB1.out.set_ 1 (.int .i64 (e : Int)),HL.out⟩ (grown_of_below HBl.out (grown_set0 (World.grownBy.refl _ _) _ _))
 ·have HS : Hid (numS (l,c) = (0,(l,c))):=Lib.hid (by simp [numS,hc])
  have hc1 : ((c : Int) != 0) = true:=by simp; exact hc
  clear hB hl hc
  go_enter Tryz.func69,Tryz.ntmps69
  go_wp2
  exact HP.out 0 _ _ HS.out ⟨HB.out,HL.out⟩ (World.grownBy.refl _ _)
end Go.Proofs.YtomnlhbioijfhaaGreatDoor
