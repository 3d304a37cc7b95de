import Derived.Test.YtomnlhbioijfhaaGreatDoorJ35
import Derived.Test.YtomnlhbioijfhaaGreatDoorJ23
import Derived.Test.YtomnlhbioijfhaaGreatDoorJ28
set_option linter.unusedSimpArgs false
set_option linter.unusedVariables false
namespace Go.Proofs.YtomnlhbioijfhaaGreatDoor
open Go.RowKit Go.Instr
attribute [local go_sem] ba_get ByteArray.mk_append_mk
attribute [local go_sem ↓] Go.wp_at_zero Go.wp_at_succ
theorem IAt.nil (w : World) : IAt w none 0 0 .nil:=⟨rfl,Nat.le_refl _,Reads.none_⟩
set_option maxRecDepth 100000 in
set_option maxHeartbeats 4000000 in
theorem ref16_Genesis (w : World) (l : List Ex.Ac) (hs : ∀ x ∈ l,x.1.length ≤ 9223372036854775807) (A : Option Addr) (c : Nat) (HR : Reads w w.heap.size 3 A l.length (acells l)) (set : List Pw.Mem) (hm : ∀ x ∈ set,x.1.length ≤ 9223372036854775807) (B : Option Addr) (d : Nat) (HS : Reads w w.heap.size 2 B set.length (mcells set)) :
  Calls Tryz.prog 45 #[.slice A l.length c,.slice B set.length d] w (DoIEnd w (Ex.genW l set).1 (Ex.genW l set).2):=by
 have HP : Hid (∀ t' cd A' n' c' w',Ex.genW l set = (t',cd) → Below w.heap.size w w' → (cd = 0 → IAt w' A' n' c' t' ∧ ∀ a,A' = some a → w.heap.size ≤ a.block) → (cd ≠ 0 → n' = 0) → DoIEnd w (Ex.genW l set).1 (Ex.genW l set).2 (.returned (.tuple #[.slice A' n' c',.int .i64 (cd : Int)])) w'):=Lib.hid (fun t' cd A' n' c' w' e h1 h2 h3=>by rw [e]; exact ⟨A',n',c',rfl,h1,h2,h3⟩)
 generalize DoIEnd w (Ex.genW l set).1 (Ex.genW l set).2 = P at HP ⊢
 have HX : Hid (Ex.genW l set = if 8 < l.length then (.nil,2) else if (Ex.genA .nil l).2 ≠ 0 then (.nil,(Ex.genA .nil l).2) else if Pw.okM set = false then (.nil,50)
  else (Trie.put (Ex.genA .nil l).1 (Nib.of Ex.sKey) (Pw.digM set),0)):=Lib.hid rfl
 generalize Ex.genW l set = X at *
 by_cases h8 : 8 < l.length
 ·have h8' : (8 : Int) < l.length:=by omega
  have HE : Hid (X = (.nil,2)):=Lib.hid (by rw [HX.out,if_pos h8])
  clear HX h8 HR HS hs hm
  go_enter Tryz.func45,Tryz.ntmps45
  go_wp2
  exact HP.out .nil 2 none 0 0 _ HE.out (Below.refl _ _) (fun h=>by cases h) (fun _=>rfl)
 have h8' : ((8 : Int) < l.length) = False:=by simp; omega
 have HX:=Lib.hid (HX.out.trans (if_neg h8))
 have HL8:=Lib.hid (Nat.le_of_not_lt h8)
 have HRR:=Lib.hid HR
 have HSl:=Lib.hid hs
 have HCk:=Lib.hid (fun W (hW : Below w.heap.size w W)=>ref05_Check W set hm B d ((HS.below hW).more hW.size))
 have HDg : Hid (∀ W,Below w.heap.size w W → Calls Tryz.prog 57 #[.slice B set.length d] W (Ret W (.string ⟨(Pw.digM set).toArray⟩))):=Lib.hid (fun W hW=>ref05_Digest W set hm B d ((HS.below hW).more hW.size))
 have hDl:=Lib.hid (fun h=>Pw.digM_len (l:=set) h)
 generalize Pw.okM set = ok at *
 generalize Pw.digM set = dg at *
 have HGA : Hid (∀ t c,Ex.genA .nil l = (t,c) → c ≠ 0 → X = (.nil,c)):=Lib.hid (fun t c e hc=>by rw [HX.out,e,if_pos hc])
 have HGB : Hid (∀ t,Ex.genA .nil l = (t,0) → X = if ok = false then (.nil,50) else (Trie.put t (Nib.of [115]) dg,0)):=Lib.hid (fun t e=>by rw [HX.out,e,if_neg (by simp)]; rfl)
 clear HR HS hs hm h8 HX
 go_enter Tryz.func45,Tryz.ntmps45
 go_wp2_with fail
 refine wp_loop_ghost_k (fun k a wr => ∀ Φ : Act → Prop,(∀ (s2 s3 s4 s5 s8 s9 s10 s11 s12 s13 s14 s15 s16 s17 s18 s19 s20 s21 s22 s23 s24 s25 s26 s27 s28 s29 s30 s31 s32 s33 s34 s35 s36 s37 s38 s39 s40 s41 s42 s43 s44 s45 s46 s47 s48 s49 s50 s51 s52 s53 s54 s55 s56 s57 s58 s59 s60 s61 s62 s63 s64 s65 s66 s67 s68 s69 s70 s71 s72 s73 s74 s75 s76 s77 s78 s79 s80 : Value) (i : Nat) (t : Trie.T) (I : Option Addr) (n1 : Nat) (c1 : Nat),(i + k = l.length ∧ Ex.genA .nil l = Ex.genA t (l.drop i) ∧ Trie.count t ≤ i ∧ Trie.Good t ∧ IAt wr I n1 c1 t ∧ Below w.heap.size w wr) → Φ { tmps:=#[.slice A l.length c,.slice B set.length d,s2,s3,s4,s5,.slice I n1 c1,.int .i64 (i : Int),s8,s9,s10,s11,s12,s13,s14,s15,s16,s17,s18,s19,s20,s21,s22,s23,s24,s25,s26,s27,s28,s29,s30,s31,s32,s33,s34,s35,s36,s37,s38,s39,s40,s41,s42,s43,s44,s45,s46,s47,s48,s49,s50,s51,s52,s53,s54,s55,s56,s57,s58,s59,s60,s61,s62,s63,s64,s65,s66,s67,s68,s69,s70,s71,s72,s73,s74,s75,s76,s77,s78,s79,s80],defers := [] }) → Φ a) (l.length) ?_ ?_
 ·refine fun Φ hΦ=>hΦ _ _ _ _ _ _ _ _ _ _ _ _ _ _ _ _ _ _ _ _ _ _ _ _ _ _ _ _ _ _ _ _ _ _ _ _ _ _ _ _ _ _ _ _ _ _ _ _ _ _ _ _ _ _ _ _ _ _ _ _ _ _ _ _ _ _ _ _ _ _ _ _ _ _ _ _ _ (0) (.nil) (none) (0) (0) ?_
  exact ⟨by omega,rfl,by simp [Trie.count],Trie.Good.nil,IAt.nil _,Below.refl _ _⟩
 ·intro k1 a1 wr1 hI1 J1 K1 hJ1 hK1
  refine hI1 (fun a=>Code.wp _ _ _ a _) ?_
  clear hI1 a1
  intro s0 s1 s2 s3 s4 s5 s6 s7 s8 s9 s10 s11 s12 s13 s14 s15 s16 s17 s18 s19 s20 s21 s22 s23 s24 s25 s26 s27 s28 s29 s30 s31 s32 s33 s34 s35 s36 s37 s38 s39 s40 s41 s42 s43 s44 s45 s46 s47 s48 s49 s50 s51 s52 s53 s54 s55 s56 s57 s58 s59 s60 s61 s62 s63 s64 s65 s66 s67 s68 s69 s70 s71 s72 s73 s74 s75 s76 i t I n1 c1 hrel
  show Code.wp _ _ _ _ _
  obtain ⟨h1,h2,h3,hg,hI,hb⟩:=hrel
  by_cases hi : i < l.length
  ·obtain ⟨ad,off,rfl,hbl,hcell⟩:=ac_cells HRR.out hi
   obtain ⟨r0,r1,r2⟩:=hcell _ hb
   have hi1 : (i : Int) < l.length:=by omega
   have hi0 : (0 : Int) ≤ i:=by omega
   have hi8 : (i : Int) < 8:=by have:=HL8.out; omega
   have hd : l.drop i = l[i] :: l.drop (i + 1):=List.drop_eq_getElem_cons hi
   have hlen:=HSl.out _ (List.getElem_mem hi)
   rw [hd] at h2
   have HI:=Lib.hid (And.intro h1 (And.intro h2 (And.intro h3 (And.intro hg (And.intro hI hb)))))
   have HC:=Lib.hid hcell
   clear h1 h2 h3 hg hI hb hcell hd hbl
   generalize l[i] = x at *
   obtain ⟨n,am,sq⟩:=x
   simp only at r0 r1 r2 hlen HC
   have HQ0 : Hid (Ex.genA t ((n,am,sq) :: l.drop (i + 1)) = if Ex.okA (n,am,sq) = false then (t,1) else if (Trie.getW t (97 :: 58 :: n)).2 = 0 then (t,6) else Ex.genA (Trie.put t (Nib.of (97 :: 58 :: n)) (Ex.writA (am.toNat,sq.toNat))) (l.drop (i + 1))):=Lib.hid rfl
   have HA : Hid (Ex.okA (n,am,sq) = (Ex.nameW n && (decide (0 ≤ am) && decide (am ≤ 1099511627776)) && (decide (0 ≤ sq) && decide (sq ≤ 1099511627776)))):=Lib.hid rfl
   have HN:=Lib.hid (fun W=>ref15_Name n hlen W)
   have HWa:=Lib.hid (fun W=>ref16_within am W)
   have HWs:=Lib.hid (fun W=>ref16_within sq W)
   cases hn : Ex.nameW n with
   | false =>
    have HE : Hid (X = (.nil,1)):=Lib.hid (HGA.out t 1 (HI.out.2.1.trans (by rw [HQ0.out,HA.out,hn]; rfl)) (by decide))
    rw [hn] at HN
    clear hn HA HQ0
    go_wp2_with fail
    refine (HN.out _).mono ?_
    rintro e w2 ⟨rfl,rfl⟩
    go_wp2_with fail
    exact HP.out .nil 1 none 0 0 _ HE.out HI.out.2.2.2.2.2 (fun h=>by cases h) (fun _=>rfl)
   | true =>
   rw [hn] at HN HA
   rw [Bool.true_and] at HA
   have hn6:=(Ex.nameW_len hn).2
   clear hn
   go_wp2_with fail
   refine (HN.out _).mono ?_
   rintro e w2 ⟨rfl,rfl⟩
   cases ha : (decide (0 ≤ am) && decide (am ≤ 1099511627776)) with
   | false =>
    have HE : Hid (X = (.nil,1)):=Lib.hid (HGA.out t 1 (HI.out.2.1.trans (by rw [HQ0.out,HA.out,ha]; rfl)) (by decide))
    rw [ha] at HWa
    clear ha HA HQ0
    go_wp2_with fail
    refine (HWa.out _).mono ?_
    rintro e w2 ⟨rfl,rfl⟩
    go_wp2_with fail
    exact HP.out .nil 1 none 0 0 _ HE.out HI.out.2.2.2.2.2 (fun h=>by cases h) (fun _=>rfl)
   | true =>
   rw [ha] at HWa HA
   rw [Bool.true_and] at HA
   simp only [Bool.and_eq_true,decide_eq_true_eq] at ha
   go_wp2_with fail
   refine (HWa.out _).mono ?_
   rintro e w2 ⟨rfl,rfl⟩
   cases hq : (decide (0 ≤ sq) && decide (sq ≤ 1099511627776)) with
   | false =>
    have HE : Hid (X = (.nil,1)):=Lib.hid (HGA.out t 1 (HI.out.2.1.trans (by rw [HQ0.out,HA.out,hq]; rfl)) (by decide))
    rw [hq] at HWs
    clear hq HA HQ0
    go_wp2_with fail
    refine (HWs.out _).mono ?_
    rintro e w2 ⟨rfl,rfl⟩
    go_wp2_with fail
    exact HP.out .nil 1 none 0 0 _ HE.out HI.out.2.2.2.2.2 (fun h=>by cases h) (fun _=>rfl)
   | true =>
   rw [hq] at HWs HA
   simp only [Bool.and_eq_true,decide_eq_true_eq] at hq
   go_wp2_with fail
   refine (HWs.out _).mono ?_
   rintro e w2 ⟨rfl,rfl⟩
   have HQ1:=Lib.hid (HQ0.out.trans (by rw [HA.out,if_neg (by decide)]))
   obtain ⟨a,rfl⟩:=Int.eq_ofNat_of_zero_le ha.1
   obtain ⟨q,rfl⟩:=Int.eq_ofNat_of_zero_le hq.1
   simp only [Int.toNat_natCast] at HQ1
   have HAt : Hid (Calls Tryz.prog 68 #[.slice I n1 c1,.string ⟨(97 :: 58 :: n).toArray⟩] wr1 (AtIEnd wr1 (Trie.itemsW t) (97 :: 58 :: n))):=Lib.hid (by
    have h:=HI.out.2.2.2.2.1
    have:=ref10_At wr1 I c1 (Trie.itemsW t) (h.hn ▸ h.hr) (by rw [items_len]; have:=HI.out.2.2.1; omega) (97 :: 58 :: n)
    rwa [← h.hn] at this)
   obtain ⟨hat1,hat2⟩:=at_getW HI.out.2.2.2.1 (k:=97 :: 58 :: n) (Ex.keyed_a hn6)
   have HV : Hid (∀ W,Calls Tryz.prog 55 #[.agg #[.string ⟨n.toArray⟩,.int .i64 (a : Int),.int .i64 (q : Int)]] W (Ret W (.string ⟨(Ex.writA (a,q)).toArray⟩))):=Lib.hid (fun W=>ref16_Value W n a q (by omega) (by omega))
   have hpc:=Ex.putCode_a (n:=n) hn6 (p:=(a,q)) (by simp only; omega) (by simp only; omega)
   have HPt : Hid (∀ W,Below wr1.heap.size wr1 W → Calls Tryz.prog 47 #[.slice I n1 c1,.string ⟨(97 :: 58 :: n).toArray⟩,.string ⟨(Ex.writA (a,q)).toArray⟩] W (DoIEnd W (Trie.put t (Nib.of (97 :: 58 :: n)) (Ex.writA (a,q))) 0)):=Lib.hid (fun W hW=>items_Put W t HI.out.2.2.2.1 (by have:=HI.out.2.2.1; omega) I n1 c1 (HI.out.2.2.2.2.1.next hW) _ _ hpc (by simp only [List.length_cons]; omega) (by have:=(Ex.writA_len (p:=(a,q)) (by simp only; omega) (by simp only; omega)).2; omega))
   have HCn : Hid (Trie.count (Trie.put t (Nib.of (97 :: 58 :: n)) (Ex.writA (a,q))) ≤ i + 1 ∧ Trie.Good (Trie.put t (Nib.of (97 :: 58 :: n)) (Ex.writA (a,q)))):=Lib.hid ⟨by have:=Trie.count_put t (Nib.of (97 :: 58 :: n)) (Ex.writA (a,q)); have:=HI.out.2.2.1; omega,Ex.good_putA HI.out.2.2.2.1 hn6 (by simp only; omega) (by simp only; omega)⟩
   have hsum : 2 + n.length ≤ 9223372036854775807:=by omega
   have hsum2 : n.length + 2 ≤ 9223372036854775807:=by omega
   have hsum3 : n.length + 1 + 1 ≤ 9223372036854775807:=by omega
   have hnl1 : (9223372036854775807 < 2 + n.length) = False:=by simp; omega
   have hnl2 : (9223372036854775807 < n.length + 2) = False:=by simp; omega
   have hnl3 : (9223372036854775807 < n.length + 1 + 1) = False:=by simp; omega
   clear hpc ha hq HA HQ0 HN HWa HWs hlen hn6
   generalize Ex.writA (a,q) = wt at *
   generalize Trie.put t (Nib.of (97 :: 58 :: n)) wt = t2 at *
   unfold AtIEnd at HAt
   cases hb2 : (Trie.atI (97 :: 58 :: n) (Trie.itemsW t)).2 with
   | true =>
    obtain ⟨_,hrv⟩:=hat1 hb2
    have HE : Hid (X = (.nil,6)):=Lib.hid (HGA.out t 6 (HI.out.2.1.trans (by rw [HQ1.out,if_pos (by rw [hrv])])) (by decide))
    rw [hb2] at HAt
    generalize (Trie.atI (97 :: 58 :: n) (Trie.itemsW t)).1 = ix at *
    clear HQ1 hat1 hat2 hb2 hrv
    go_wp2_with fail
    refine HAt.out.mono ?_
    rintro e w2 ⟨rfl,hb⟩
    have B2:=Lib.hid (HI.out.2.2.2.2.2.nxt hb)
    clear hb
    go_wp2_with fail
    exact HP.out .nil 6 none 0 0 _ HE.out B2.out (fun h=>by cases h) (fun _=>rfl)
   | false =>
   have HQ:=Lib.hid (HQ1.out.trans (if_neg (by rw [hat2 hb2]; decide)))
   rw [hb2] at HAt
   generalize (Trie.atI (97 :: 58 :: n) (Trie.itemsW t)).1 = ix at *
   clear HQ1 hat1 hat2 hb2
   go_wp2_with fail
   refine HAt.out.mono ?_
   rintro e w2 ⟨rfl,hb⟩
   have F:=Live.hb (Lib.hid (Live.start wr1)) hb
   clear hb r0 r1 r2 HAt
   obtain ⟨r0,r1,r2⟩:=HC.out _ (HI.out.2.2.2.2.2.nxt F.out.b)
   go_upto_region 12 with fail
   go_region_held3 (fun w'=>w'.cell? ⟨ad,off + i * 3,none⟩ = some (.string ⟨n.toArray⟩) ∧ w'.cell? ⟨ad,off + i * 3 + 1,none⟩ = some (.int .i64 (a : Int)) ∧ w'.cell? ⟨ad,off + i * 3 + 2,none⟩ = some (.int .i64 (q : Int))) (first | go_keep | (refine ⟨?_, ?_, ?_⟩ <;> assumption)) (first | (go_at_call 55; ((with_reducible refine (HV.out _).mono ?_); (rintro e w3 ⟨rfl,hb⟩; (first | have F:=Live.hb F hb | have F:=Live.hbd F hb); clear hb; obtain ⟨r0,r1,r2⟩:=HC.out _ (HI.out.2.2.2.2.2.nxt F.out.b)))) | (go_at_call 47; ((with_reducible refine (HPt.out _ ?_).mono ?_); (first | exact F.out.b | exact F.out.b.drew); (rintro e w4 ⟨A4,n4,c4,rfl,hb,hI4,_⟩; have K4:=Lib.hid (hI4 rfl).1; (first | have F:=Live.hb F hb | have F:=Live.hbd F hb); clear hb hI4; obtain ⟨r0,r1,r2⟩:=HC.out _ (HI.out.2.2.2.2.2.nxt F.out.b)))))
   all_goals go_wp2_with fail
   all_goals
    refine Handed.intro (l.length - (i + 1)) ?_ (hJ1 _ _ _ (fun Φ hΦ=>hΦ _ _ _ _ _ _ _ _ _ _ _ _ _ _ _ _ _ _ _ _ _ _ _ _ _ _ _ _ _ _ _ _ _ _ _ _ _ _ _ _ _ _ _ _ _ _ _ _ _ _ _ _ _ _ _ _ _ _ _ _ _ _ _ _ _ _ _ _ _ _ _ _ _ _ _ _ _ (i + 1) (t2) (A4) (n4) (c4) ?_))
    ·have:=HI.out.1; omega
    exact ⟨by have:=HI.out.1; omega,HI.out.2.1.trans HQ.out,HCn.out.1,HCn.out.2,K4.out,HI.out.2.2.2.2.2.nxt F.out.b⟩
  ·have hi1 : ((i : Int) < l.length) = False:=by simp; omega
   have HGe : Hid (Ex.genA .nil l = (t,0)):=Lib.hid (by rw [h2,List.drop_of_length_le (by omega)]; rfl)
   have HE:=Lib.hid (HGB.out t HGe.out)
   have HI:=Lib.hid (And.intro h3 (And.intro hg (And.intro hI hb)))
   have HCk1:=Lib.hid (HCk.out _ hb)
   have HDg1:=Lib.hid (fun W (hW : Below wr1.heap.size wr1 W)=>HDg.out W (hb.nxt hW))
   have HiL : Hid (i ≤ 8):=Lib.hid (by have:=HL8.out; omega)
   clear h1 h2 h3 hg hI hb hi HGA HGB HGe HCk HDg
   cases ok with
   | false =>
    rw [if_pos rfl] at HE
    unfold codeM at HCk1
    simp only [Bool.false_eq_true,if_false] at HCk1
    go_wp2_with fail
    refine HCk1.out.mono ?_
    rintro e w2 ⟨rfl,hb⟩
    have B2:=Lib.hid hb
    clear hb
    go_wp2_with fail
    exact HP.out .nil 50 none 0 0 _ HE.out (HI.out.2.2.2.nxt B2.out) (fun h=>by cases h) (fun _=>rfl)
   | true =>
    rw [if_neg (by decide)] at HE
    unfold codeM at HCk1
    simp only [if_true] at HCk1
    have hdl:=hDl.out rfl
    have hpc : Trie.putCode [115] dg = 0:=Ex.putCode_v (k := [115]) (v:=dg) rfl (by omega) (by omega)
    have HPt : Hid (∀ W,Below wr1.heap.size wr1 W → Calls Tryz.prog 47 #[.slice I n1 c1,.string ⟨#[115]⟩,.string ⟨dg.toArray⟩] W (DoIEnd W (Trie.put t (Nib.of [115]) dg) 0)):=Lib.hid (fun W hW=>items_Put W t HI.out.2.1 (by have:=HI.out.1; have:=HiL.out; omega) I n1 c1 (HI.out.2.2.1.next hW) [115] dg hpc (by simp) (by omega))
    clear hpc hdl hDl
    go_wp2_with fail
    refine HCk1.out.mono ?_
    rintro e w2 ⟨rfl,hb⟩
    have B2:=Lib.hid hb
    clear hb
    go_wp2_with fail
    refine (HDg1.out _ B2.out).mono ?_
    rintro e w3 ⟨rfl,hb⟩
    have B3:=Lib.hid (B2.out.nxt hb)
    clear hb B2
    go_wp2_with fail
    refine (HPt.out _ B3.out).mono ?_
    rintro e w4 ⟨A4,n4,c4,rfl,hb,hI4,_⟩
    have B4:=Lib.hid (HI.out.2.2.2.nxt (B3.out.nxt hb))
    have K4 : Hid (IAt w4 A4 n4 c4 (Trie.put t (Nib.of [115]) dg) ∧ ∀ a,A4 = some a → w.heap.size ≤ a.block):=Lib.hid ⟨(hI4 rfl).1,fun a e=>Nat.le_trans (HI.out.2.2.2.nxt B3.out).size ((hI4 rfl).2 a e)⟩
    clear hb hI4
    go_wp2_with fail
    exact HP.out _ 0 _ _ _ _ HE.out B4.out (fun _=>K4.out) (fun h=>absurd rfl h)
def begT : Trie.T → List Trie.KV → Trie.T
 | t, []=>t
 | t,x :: r=>begT (if Trie.putCode x.1 x.2 = 0 then Trie.put t (Nib.of x.1) x.2 else t) r
theorem putCode_ok {k v : List UInt8} (h : Trie.putCode k v = 0) : Trie.keyedW k = true ∧ v ≠ [] ∧ v.length ≤ 32:=by
 unfold Trie.putCode at h
 split at h
 ·rename_i hk
  split at h
  ·cases h
  ·rename_i hv
   simp only [Bool.or_eq_true,decide_eq_true_eq,List.isEmpty_iff,not_or] at hv
   exact ⟨hk,hv.1,by omega⟩
 ·cases h
theorem begT_step {t : Trie.T} (h : Trie.Good t) (x : Trie.KV) : Trie.Good (if Trie.putCode x.1 x.2 = 0 then Trie.put t (Nib.of x.1) x.2 else t) ∧ Trie.count (if Trie.putCode x.1 x.2 = 0 then Trie.put t (Nib.of x.1) x.2 else t) ≤ Trie.count t + 1:=by
 split
 ·rename_i hp
  obtain ⟨h1,h2,h3⟩:=putCode_ok hp
  exact ⟨Trie.Good.put h h1 h2 h3,Trie.count_put _ _ _⟩
 ·exact ⟨h,by omega⟩
theorem begT_good : ∀ (l : List Trie.KV) (t : Trie.T),Trie.Good t → Trie.Good (begT t l) ∧ Trie.count (begT t l) ≤ Trie.count t + l.length
 | [],t,h=>⟨h,by simp [begT]⟩
 | x :: r,t,h=>by
  obtain ⟨h1,h2⟩:=begT_step h x
  obtain ⟨h3,h4⟩:=begT_good r _ h1
  refine ⟨h3, ?_⟩
  simp only [begT,List.length_cons]
  omega
def PutCEnd (w : World) (t : Trie.T) (cd : Nat) (e : Ending) (w' : World) : Prop :=
 ∃ A n c,e = .returned (.tuple #[.slice A n c,.int .i64 (cd : Int)]) ∧ Below w.heap.size w w' ∧ (cd = 0 → IAt w' A n c t)
theorem items_PutC (w : World) (t : Trie.T) (hg : Trie.Good t) (hcn : Trie.count t ≤ 1000) (A : Option Addr) (n c : Nat) (h : IAt w A n c t) (k v : List UInt8) (hk : k.length ≤ 9223372036854775807) (hv : v.length ≤ 9223372036854775807) :
  Calls Tryz.prog 47 #[.slice A n c,.string ⟨k.toArray⟩,.string ⟨v.toArray⟩] w (PutCEnd w (Trie.put t (Nib.of k) v) (Trie.putCode k v)):=by
 obtain ⟨rfl,hc,hr⟩:=h
 obtain ⟨h1,h2⟩:=Trie.rput_put hg k v
 refine (ref10_Put w A c (Trie.itemsW t) hr hc (by rw [items_len]; exact hcn) k v hk hv).mono ?_
 rintro e w' ⟨A',n',c',rfl,hn,hc',own,hb⟩
 rw [h1]
 refine ⟨A',n',c',rfl,hb,fun h => ?_⟩
 rw [h2 h] at hn own
 exact ⟨hn,hc',Reads.of_own own⟩
def BegEnd (w : World) (T : Trie.T) (cd : Nat) (e : Ending) (w' : World) : Prop :=
 ∃ v A n c,e = .returned (.tuple #[v,.slice A n c,.bool true]) ∧ Below w.heap.size w w' ∧ (cd = 0 → TrieP w' T v ∧ IAt w' A n c T) ∧ (cd ≠ 0 → v = .pointer none)
set_option maxRecDepth 100000 in
set_option maxHeartbeats 4000000 in
theorem law16_begun (w : World) (A : Option Addr) (c : Nat) (l : List Ex.Ac) (B : Option Addr) (d : Nat) (set : List Pw.Mem) (C : Option Addr) (e0 : Nat) (its : List Trie.KV) (h : StartAt w A l B set C its) (h20 : its.length ≤ 20) (hT : Tbl w) :
  Calls Tryz.prog 16 #[.agg #[.slice A l.length c,.slice B set.length d,.slice C its.length e0]] w (BegEnd w (begT (Ex.genW l set).1 its) (Ex.genW l set).2):=by
 have HP : Hid (∀ cd T v A n c w',(Ex.genW l set).2 = cd → begT (Ex.genW l set).1 its = T → Below w.heap.size w w' → (cd = 0 → TrieP w' T v ∧ IAt w' A n c T) → (cd ≠ 0 → v = .pointer none) → BegEnd w (begT (Ex.genW l set).1 its) (Ex.genW l set).2 (.returned (.tuple #[v,.slice A n c,.bool true])) w'):=Lib.hid (fun cd T v A n c w' e1 e2 h1 h2 h3=>by rw [e1,e2]; exact ⟨v,A,n,c,rfl,h1,h2,h3⟩)
 generalize BegEnd w (begT (Ex.genW l set).1 its) (Ex.genW l set).2 = P at HP ⊢
 have HG:=Lib.hid (fun W (hW : Below w.heap.size w W)=>exec_Genesis W l h.al A c (h.next hW).a set h.sl B d (h.next hW).s (hT.next hW))
 have HR:=Lib.hid (fun W (hW : Below w.heap.size w W)=>ref16_Genesis W l h.al A c (h.next hW).a set h.sl B d (h.next hW).s)
 have HGd:=Lib.hid (Ex.genW_good l set)
 have HRI:=Lib.hid h.i
 have HIl:=Lib.hid h.il
 have HTb:=Lib.hid hT
 have HL:=Lib.hid h20
 generalize Ex.genW l set = r at *
 obtain ⟨t0,cd⟩:=r
 simp only at HG HP HR HGd
 clear h hT h20
 go_enter Tryz.func16,Tryz.ntmps16
 go_upto_region 1 with fail
 have F0:=Live.ha (Lib.hid (Live.start w)) #[.slice A l.length c,.slice B set.length d,.slice C its.length e0] 41
 generalize w.alloc (.cells #[.slice A l.length c,.slice B set.length d,.slice C its.length e0] 41) = W0 at F0 ⊢
 generalize w.heap.size = sb at F0 ⊢
 have k0_0 : W0.cell? ⟨sb,0,none⟩ = some (.slice A l.length c):=F0.out.cell 0 0 rfl rfl; have k0_1 : W0.cell? ⟨sb,1,none⟩ = some (.slice B set.length d):=F0.out.cell 0 1 rfl rfl; have k0_2 : W0.cell? ⟨sb,2,none⟩ = some (.slice C its.length e0):=F0.out.cell 0 2 rfl rfl
 go_wp2_with fail
 refine (HG.out _ F0.out.b).mono ?_
 rintro e w1 ⟨v,rfl,hb,hk,hn⟩
 have F1:=Live.hb F0 hb
 clear hb F0 k0_0 k0_1 k0_2 HG
 have k0_0 : w1.cell? ⟨sb,0,none⟩ = some (.slice A l.length c):=F1.out.cell 0 0 rfl rfl; have k0_1 : w1.cell? ⟨sb,1,none⟩ = some (.slice B set.length d):=F1.out.cell 0 1 rfl rfl; have k0_2 : w1.cell? ⟨sb,2,none⟩ = some (.slice C its.length e0):=F1.out.cell 0 2 rfl rfl
 go_wp2_with fail
 refine (HR.out _ F1.out.b).mono ?_
 rintro e w2 ⟨I0,n0,c0,rfl,hb,hI,hn0⟩
 have F2:=Live.hb F1 hb
 have K2:=Lib.hid (fun e : cd = 0=>And.intro ((hk e).next hb) (hI e).1)
 have hee : ((cd : Int) != cd) = false:=by simp
 have hee2 : ((cd : Int) == cd) = true:=by simp
 clear hb F1 k0_0 k0_1 k0_2 HR hk hI hn0
 by_cases hc : cd = 0
 rotate_left
 ·obtain rfl:=hn hc
  have HC:=Lib.hid hc
  clear hc hn
  go_wp2_with fail
  exact HP.out cd _ _ _ _ _ _ rfl rfl F2.out.b (fun h=>absurd h HC.out) (fun _=>rfl)
 subst hc
 have K3:=Lib.hid (K2.out rfl)
 obtain ⟨_,p2,x2,rfl,_⟩:=id K3.out.1
 have HB0:=Lib.hid (And.intro HGd.out.1 HGd.out.2)
 clear hn hee hee2 K2
 go_wp2_with fail
 refine wp_loop_ghost_k (fun k a wr => ∀ Φ : Act → Prop,(∀ (s0 s2 s3 s4 s6 s8 s10 s11 s12 s13 s14 s15 s16 s17 s18 s19 s20 s21 s22 s23 s24 s25 s26 s27 s28 s29 s30 s31 s32 s33 s34 s35 s36 s37 s38 s39 s40 s41 s42 s43 s44 s45 s46 s47 s48 s49 s50 s51 s52 s53 s54 s55 s56 s57 s58 s59 s60 s61 s62 s63 s64 s65 s66 s67 s68 s69 s70 s71 s72 s73 s74 s75 s76 s77 s78 s79 s80 s81 s82 s83 s84 s85 s86 s87 s88 s89 s90 s91 s92 s93 : Value) (i : Nat) (t : Trie.T) (v : Value) (I : Option Addr) (n1 : Nat) (c1 : Nat),(i + k = its.length ∧ begT t0 its = begT t (its.drop i) ∧ Trie.count t ≤ 100 + i ∧ Trie.Good t ∧ TrieP wr t v ∧ IAt wr I n1 c1 t ∧ Live w wr [(sb,41,#[.slice A l.length c,.slice B set.length d,.slice C its.length e0])]) → Φ { tmps:=#[s0,.pointer (some ⟨sb,0,none⟩),s2,s3,s4,v,s6,.slice I n1 c1,s8,.int .i64 (i : Int),s10,s11,s12,s13,s14,s15,s16,s17,s18,s19,s20,s21,s22,s23,s24,s25,s26,s27,s28,s29,s30,s31,s32,s33,s34,s35,s36,s37,s38,s39,s40,s41,s42,s43,s44,s45,s46,s47,s48,s49,s50,s51,s52,s53,s54,s55,s56,s57,s58,s59,s60,s61,s62,s63,s64,s65,s66,s67,s68,s69,s70,s71,s72,s73,s74,s75,s76,s77,s78,s79,s80,s81,s82,s83,s84,s85,s86,s87,s88,s89,s90,s91,s92,s93],defers := [] }) → Φ a) (its.length) ?_ ?_
 ·refine fun Φ hΦ=>hΦ _ _ _ _ _ _ _ _ _ _ _ _ _ _ _ _ _ _ _ _ _ _ _ _ _ _ _ _ _ _ _ _ _ _ _ _ _ _ _ _ _ _ _ _ _ _ _ _ _ _ _ _ _ _ _ _ _ _ _ _ _ _ _ _ _ _ _ _ _ _ _ _ _ _ _ _ _ _ _ _ _ _ _ _ _ _ _ _ _ _ (0) (t0) (_) (I0) (n0) (c0) ?_
  exact ⟨by omega,rfl,by have:=HB0.out.2; omega,HB0.out.1,K3.out.1,K3.out.2,F2.out⟩
 ·intro k1 a1 wr1 hI1 J1 K1 hJ1 hK1
  refine hI1 (fun a=>Code.wp _ _ _ a _) ?_
  clear hI1 a1
  intro s0 s1 s2 s3 s4 s5 s6 s7 s8 s9 s10 s11 s12 s13 s14 s15 s16 s17 s18 s19 s20 s21 s22 s23 s24 s25 s26 s27 s28 s29 s30 s31 s32 s33 s34 s35 s36 s37 s38 s39 s40 s41 s42 s43 s44 s45 s46 s47 s48 s49 s50 s51 s52 s53 s54 s55 s56 s57 s58 s59 s60 s61 s62 s63 s64 s65 s66 s67 s68 s69 s70 s71 s72 s73 s74 s75 s76 s77 s78 s79 s80 s81 s82 s83 s84 s85 s86 s87 s88 s89 i t v I n1 c1 hrel
  show Code.wp _ _ _ _ _
  obtain ⟨h1,h2,h3,hg,hk,hI,hF⟩:=hrel
  obtain ⟨_,pv,px,rfl,_⟩:=id hk
  have F:=Lib.hid hF
  have k0_2 : wr1.cell? ⟨sb,2,none⟩ = some (.slice C its.length e0):=hF.cell 0 2 rfl rfl
  by_cases hi : i < its.length
  ·obtain ⟨ad,off,rfl,hbl,hcell⟩:=icell_cells HRI.out hi
   obtain ⟨q0,q1⟩:=hcell _ hF.b
   have hi1 : (i : Int) < its.length:=by omega
   have hi0 : (0 : Int) ≤ i:=by omega
   have hi20 : (i : Int) < 20:=by have:=HL.out; omega
   have hd : its.drop i = its[i] :: its.drop (i + 1):=List.drop_eq_getElem_cons hi
   have hlen:=HIl.out _ (List.getElem_mem hi)
   rw [hd,begT] at h2
   have HI:=Lib.hid (And.intro h1 (And.intro h2 (And.intro h3 (And.intro hg (And.intro hk hI)))))
   have HSt:=Lib.hid (begT_step hg its[i])
   have HC:=Lib.hid hcell
   clear h1 h2 h3 hg hk hI hF hcell hd hbl
   generalize its[i] = x at *
   obtain ⟨kk,vv⟩:=x
   simp only at q0 q1 hlen HC HI HSt
   have HPt : Hid (∀ W,Below wr1.heap.size wr1 W → Calls Tryz.prog 46 #[.pointer (some ⟨pv,0,none⟩),.string ⟨kk.toArray⟩,.string ⟨vv.toArray⟩] W (TPutEnd W (Trie.put t (Nib.of kk) vv) (Trie.putCode kk vv))):=Lib.hid (fun W hW=>trie_Put W t _ (HI.out.2.2.2.2.1.next hW) (by have:=HI.out.2.2.1; omega) (HTb.out.next (F.out.b.nxt hW)) kk vv hlen.1 hlen.2)
   have HPr : Hid (∀ W,Below wr1.heap.size wr1 W → Calls Tryz.prog 47 #[.slice I n1 c1,.string ⟨kk.toArray⟩,.string ⟨vv.toArray⟩] W (PutCEnd W (Trie.put t (Nib.of kk) vv) (Trie.putCode kk vv))):=Lib.hid (fun W hW=>items_PutC W t HI.out.2.2.2.1 (by have:=HI.out.2.2.1; omega) I n1 c1 (HI.out.2.2.2.2.2.next hW) kk vv hlen.1 hlen.2)
   generalize Trie.put t (Nib.of kk) vv = t2 at *
   generalize Trie.putCode kk vv = pc at *
   have hpp : ((pc : Int) != pc) = false:=by simp
   have F1:=F
   have F:=Lib.hid (Live.start wr1)
   go_upto_region 8 with fail
   go_region_held3 (fun w'=>w'.cell? ⟨sb,2,none⟩ = some (.slice (some ⟨ad,off,none⟩) its.length e0) ∧ w'.cell? ⟨ad,off + i * 2,none⟩ = some (.string ⟨kk.toArray⟩) ∧ w'.cell? ⟨ad,off + i * 2 + 1,none⟩ = some (.string ⟨vv.toArray⟩)) (first | go_keep | (refine ⟨?_, ?_, ?_⟩ <;> assumption)) ((go_at_call 46; ((with_reducible refine (HPt.out _ ?_).mono ?_); (first | exact F.out.b | exact F.out.b.drew); (rintro e w3 ⟨v4,rfl,hb,hk4,_⟩; have HK4:=Lib.hid hk4; clear hk4; (first | have F:=Live.hb F hb | have F:=Live.hbd F hb); clear hb; obtain ⟨q0,q1⟩:=HC.out _ (F1.out.b.nxt F.out.b); have k0_2 : w3.cell? ⟨sb,2,none⟩ = some (.slice (some ⟨ad,off,none⟩) its.length e0):=(Live.hb F1 F.out.b).out.cell 0 2 rfl rfl))))
   go_upto_region 9 with fail
   go_region_held3 (fun w'=>w'.cell? ⟨sb,2,none⟩ = some (.slice (some ⟨ad,off,none⟩) its.length e0) ∧ w'.cell? ⟨ad,off + i * 2,none⟩ = some (.string ⟨kk.toArray⟩) ∧ w'.cell? ⟨ad,off + i * 2 + 1,none⟩ = some (.string ⟨vv.toArray⟩)) (first | go_keep | (refine ⟨?_, ?_, ?_⟩ <;> assumption)) ((go_at_call 47; ((with_reducible refine (HPr.out _ ?_).mono ?_); (first | exact F.out.b | exact F.out.b.drew); (rintro e w4 ⟨A5,n5,c5,rfl,hb,hI5⟩; have HI5:=Lib.hid hI5; have hb5 : Below w3.heap.size w3 w4:=(by first | exact hb | exact hb.start); have HB5:=Lib.hid hb5; clear hb5 hI5; (first | have F:=Live.hb F hb | have F:=Live.hbd F hb); clear hb; obtain ⟨q0,q1⟩:=HC.out _ (F1.out.b.nxt F.out.b); have k0_2 : w4.cell? ⟨sb,2,none⟩ = some (.slice (some ⟨ad,off,none⟩) its.length e0):=(Live.hb F1 F.out.b).out.cell 0 2 rfl rfl))))
   have F5:=Live.hb F1 F.out.b
   have K5:=Lib.hid (And.intro (fun e : pc = 0=>(HK4.out e).next HB5.out) HI5.out)
   by_cases hpc : pc = 0
   ·subst hpc
    have K6:=Lib.hid (And.intro (K5.out.1 rfl) (K5.out.2 rfl))
    rw [if_pos rfl] at HSt
    have HS2:=Lib.hid (HI.out.2.1.trans (by rw [if_pos rfl]))
    obtain ⟨_,p4,x4,rfl,_⟩:=id K6.out.1
    clear K5 HK4 HI5
    go_wp2_with fail
    refine Handed.intro (its.length - (i + 1)) ?_ (hJ1 _ _ _ (fun Φ hΦ=>hΦ _ _ _ _ _ _ _ _ _ _ _ _ _ _ _ _ _ _ _ _ _ _ _ _ _ _ _ _ _ _ _ _ _ _ _ _ _ _ _ _ _ _ _ _ _ _ _ _ _ _ _ _ _ _ _ _ _ _ _ _ _ _ _ _ _ _ _ _ _ _ _ _ _ _ _ _ _ _ _ _ _ _ _ _ _ _ _ _ _ _ (i + 1) (t2) (.pointer (some ⟨p4,0,none⟩)) (A5) (n5) (c5) ?_))
    ·have:=HI.out.1; omega
    exact ⟨by have:=HI.out.1; omega,HS2.out,by have:=HSt.out.2; have:=HI.out.2.2.1; omega,HSt.out.1,K6.out.1,K6.out.2,F5.out⟩
   ·have hp0 : ((pc : Int) == 0) = false:=by rw [beq_eq_false_iff_ne]; omega
    have HPc:=Lib.hid hpc
    clear hpc
    go_wp2_with fail
    refine Handed.intro (its.length - (i + 1)) ?_ (hJ1 _ _ _ (fun Φ hΦ=>hΦ _ _ _ _ _ _ _ _ _ _ _ _ _ _ _ _ _ _ _ _ _ _ _ _ _ _ _ _ _ _ _ _ _ _ _ _ _ _ _ _ _ _ _ _ _ _ _ _ _ _ _ _ _ _ _ _ _ _ _ _ _ _ _ _ _ _ _ _ _ _ _ _ _ _ _ _ _ _ _ _ _ _ _ _ _ _ _ _ _ _ (i + 1) (t) (.pointer (some ⟨pv,0,none⟩)) (I) (n1) (c1) ?_))
    ·have:=HI.out.1; omega
    exact ⟨by have:=HI.out.1; omega,HI.out.2.1.trans (by rw [if_neg HPc.out]),by have:=HI.out.2.2.1; omega,HI.out.2.2.2.1,HI.out.2.2.2.2.1.next F.out.b,HI.out.2.2.2.2.2.next F.out.b,F5.out⟩
  ·have hi1 : ((i : Int) < its.length) = False:=by simp; omega
   have HT2 : Hid (begT t0 its = t):=Lib.hid (by rw [h2,List.drop_of_length_le (by omega)]; rfl)
   have HI:=Lib.hid (And.intro h3 (And.intro hk hI))
   have HIt:=Lib.hid (trie_Items wr1 t _ hk (by have:=HL.out; omega))
   have HQl : Hid ((Trie.itemsW t).length ≤ 1000):=Lib.hid (by rw [items_len]; have:=HL.out; omega)
   clear h1 h2 h3 hg hk hI hF hi
   obtain ⟨iq,hiq⟩ : ∃ iq,Trie.itemsW t = iq:=⟨_,rfl⟩
   have HIq:=Lib.hid hiq
   rw [hiq] at HIt HQl
   clear hiq
   go_wp2_with fail
   refine HIt.out.mono ?_
   rintro e w8 ⟨A8,n8,c8,rfl,hn8,own8,hb⟩
   subst hn8
   have F8:=Live.hb F hb
   have R8:=Lib.hid (Reads.of_own own8)
   have K8:=Lib.hid (And.intro (HI.out.2.1.next hb) (HI.out.2.2.next hb))
   clear hb own8 F HIt
   go_wp2_with fail
   have RB : Hid (Reads w8 w8.heap.size 2 I n1 (icells iq) ∧ n1 ≤ 1048576 ∧ iq.length ≤ 1048576):=Lib.hid ⟨HIq.out ▸ K8.out.2.hr,by have:=HQl.out; have:=K8.out.2.hn; rw [HIq.out] at this; omega,by have:=HQl.out; omega⟩
   refine (book_SameItems A8 I iq.length n1 c8 c1 iq iq w8 R8.out RB.out.1 RB.out.2.2 RB.out.2.1).mono ?_
   rw [decide_eq_true rfl]
   rintro e w9 ⟨rfl,hb⟩
   have F9:=Live.hb F8 hb
   have K9:=Lib.hid (And.intro (K8.out.1.next hb) (K8.out.2.next hb))
   clear hb F8 K8 R8
   go_wp2_with fail
   exact HP.out 0 t _ _ _ _ _ rfl HT2.out F9.out.b (fun _=>K9.out) (fun h=>absurd rfl h)
theorem ac_same2 (w : World) (n : List UInt8) (a q : Int) : (Op.equalIn 10000 56 (.agg #[.string ⟨n.toArray⟩,.int .i64 a,.int .i64 q]) (.agg #[.string ⟨n.toArray⟩,.int .i64 a,.int .i64 q])).run Tryz.prog w = .ok true w:=by
 have u9:=Tryz.underlying9
 have a9:=Tryz.isAgg9
 have z9:=Tryz.sizeOf9
 have u3:=Tryz.underlying3
 have a3:=Tryz.isAgg3
 have z3:=Tryz.sizeOf3
 have hS : Tryz.prog.underlying 56 = some (.struct (Tryz.prog.fieldsOf 56)):=by kernel_rfl
 have hp : Tryz.prog.stoodInHeld 56 = false:=by kernel_rfl
 rw [show (10000 : Nat) = 9999 + 1 from rfl,run_equalIn_agg w 9999 56 _ _ hS hp]
 simp only [Program.fieldsOf,Tryz.underlying56]
 go_simp
set_option maxRecDepth 100000 in
set_option maxHeartbeats 4000000 in
theorem law_ExecOne (w : World) (A : Option Addr) (c : Nat) (l : List Ex.Ac) (B : Option Addr) (d : Nat) (set : List Pw.Mem) (C : Option Addr) (e0 : Nat) (its : List Trie.KV) (h : StartAt w A l B set C its)
  (kd : Int) (fr : List UInt8) (sq : Int) (dt : List UInt8) (am : Int) (ky vl : List UInt8) (mm : List Pw.Mem) (mA : Option Addr) (mc : Nat) (hok : OkT ⟨kd,fr,sq,dt,am,ky,vl,mm⟩) (HM : Reads w w.heap.size 2 mA mm.length (mcells mm))
  (n0 n1 : List UInt8) (hn0 : n0.length ≤ 9223372036854775807) (hn1 : n1.length ≤ 9223372036854775807) (hT : Tbl w) :
  Calls Tryz.prog 4 #[.agg #[.slice A l.length c,.slice B set.length d,.slice C its.length e0],.agg #[.int .i64 kd,.string ⟨fr.toArray⟩,.int .i64 sq,.string ⟨dt.toArray⟩,.int .i64 am,.string ⟨ky.toArray⟩,.string ⟨vl.toArray⟩,.slice mA mm.length mc],.agg #[.string ⟨n0.toArray⟩,.string ⟨n1.toArray⟩]] w fun e w'=>e = .returned (.bool true) ∧ Below w.heap.size w w':=by
 have HP : Hid (∀ w',Below w.heap.size w w' → (fun e w'=>e = Ending.returned (.bool true) ∧ Below w.heap.size w w') (Ending.returned (.bool true)) w'):=Lib.hid (fun W' a2=>⟨rfl,a2⟩)
 generalize (fun e w'=>e = Ending.returned (.bool true) ∧ Below w.heap.size w w') = P at HP ⊢
 have HTb:=Lib.hid hT
 have HMm:=Lib.hid (fun W (hW : Below w.heap.size w W)=>(HM.below hW).more hW.size)
 have HOk:=Lib.hid hok
 have HBn:=Lib.hid (fun W (hW : Below w.heap.size w W) (h20 : its.length ≤ 20)=>law16_begun W A c l B d set C e0 its (h.next hW) h20 (hT.next hW))
 have HBg:=Lib.hid (fun W D (hW : Below w.heap.size w W) (hx : TxsAt W D [(⟨kd,fr,sq,dt,am,ky,vl,mm⟩,mA,mc)])=>law16_big W A c l B d set C e0 its (h.next hW) D 1 [(⟨kd,fr,sq,dt,am,ky,vl,mm⟩,mA,mc)] hx)
 have HDo:=Lib.hid (fun W t v (hW : Below w.heap.size w W) (hk : TrieP W t v) (hc : Trie.count t ≤ 1000)=>exec_Do W t v hk hc (hT.next hW) kd fr sq dt am ky vl mm mA mc hok.f hok.d hok.k hok.v hok.m ((HM.below hW).more hW.size))
 have HDr:=Lib.hid (fun W t A n c (hW : Below w.heap.size w W) (hg : Trie.Good t) (hI : IAt W A n c t) (hc : Trie.count t ≤ 900)=>ref16_Do W t hg hc A n c hI kd fr sq dt am ky vl mm mA mc ⟨hok.f,hok.d,hok.k,hok.v,hok.m⟩ ((HM.below hW).more hW.size))
 have HGd:=Lib.hid (fun h20 : its.length ≤ 20=>(show Trie.Good (begT (Ex.genW l set).1 its) ∧ Trie.count (begT (Ex.genW l set).1 its) ≤ 100 from ⟨(begT_good its _ (Ex.genW_good l set).1).1,by have:=(begT_good its _ (Ex.genW_good l set).1).2; have:=(Ex.genW_good l set).2; omega⟩))
 have HA0:=Lib.hid (fun W t v (hk : TrieP W t v)=>exec_Account W t v hk n0 hn0)
 have HD1:=Lib.hid (fun W t v (hk : TrieP W t v)=>exec_Data W t v hk n1 hn1)
 have HRa : Hid (∀ W t A n c,Trie.Good t → Trie.count t ≤ 1000 → IAt W A n c t → Calls Tryz.prog 21 #[.slice A n c,.string ⟨n0.toArray⟩] W (AccEnd W (accW t n0))):=Lib.hid (fun W t A n c hg hc hI=>by
  have:=ref16_Account W t hg A c (hI.hn ▸ hI.hr) (by rw [items_len]; omega) n0 hn0
  rwa [← hI.hn] at this)
 have HRd : Hid (∀ W t A n c,Trie.Good t → Trie.count t ≤ 1000 → IAt W A n c t → Calls Tryz.prog 23 #[.slice A n c,.string ⟨n1.toArray⟩] W (TGetEnd W (dataW t n1))):=Lib.hid (fun W t A n c hg hc hI=>by
  have:=ref16_Data W t hg A c (hI.hn ▸ hI.hr) (by rw [items_len]; omega) n1 hn1
  rwa [← hI.hn] at this)
 generalize begT (Ex.genW l set).1 its = T at *
 generalize (Ex.genW l set).2 = cd at *
 clear h hT hok HM hn0 hn1
 go_enter Tryz.func4,Tryz.ntmps4
 go_upto_region 1 with fail
 have F0:=Live.ha (Live.ha (Live.ha (Lib.hid (Live.start w)) #[.slice A l.length c,.slice B set.length d,.slice C its.length e0] 41) #[.int .i64 kd,.string ⟨fr.toArray⟩,.int .i64 sq,.string ⟨dt.toArray⟩,.int .i64 am,.string ⟨ky.toArray⟩,.string ⟨vl.toArray⟩,.slice mA mm.length mc] 43) #[.string ⟨n0.toArray⟩,.string ⟨n1.toArray⟩] 44
 have hz1 : (w.alloc (.cells #[.slice A l.length c,.slice B set.length d,.slice C its.length e0] 41)).heap.size = w.heap.size + 1:=by show (w.heap.push _).size = _; exact Array.size_push _
 have hz2 : ((w.alloc (.cells #[.slice A l.length c,.slice B set.length d,.slice C its.length e0] 41)).alloc (.cells #[.int .i64 kd,.string ⟨fr.toArray⟩,.int .i64 sq,.string ⟨dt.toArray⟩,.int .i64 am,.string ⟨ky.toArray⟩,.string ⟨vl.toArray⟩,.slice mA mm.length mc] 43)).heap.size = w.heap.size + 2:=by
  have : ((w.alloc (.cells #[.slice A l.length c,.slice B set.length d,.slice C its.length e0] 41)).heap.push (.cells #[.int .i64 kd,.string ⟨fr.toArray⟩,.int .i64 sq,.string ⟨dt.toArray⟩,.int .i64 am,.string ⟨ky.toArray⟩,.string ⟨vl.toArray⟩,.slice mA mm.length mc] 43 (0,0))).size = _:=Array.size_push _
  rw [hz1] at this
  exact this
 rw [hz2,hz1] at F0
 clear hz1 hz2
 obtain ⟨nb,hnb⟩ : ∃ nb,w.heap.size + 2 = nb:=⟨_,rfl⟩
 obtain ⟨xb,hxb⟩ : ∃ xb,w.heap.size + 1 = xb:=⟨_,rfl⟩
 obtain ⟨sb,hsb⟩ : ∃ sb,w.heap.size = sb:=⟨_,rfl⟩
 try rw [show w.heap.size + 1 + 1 = nb by omega]
 rw [hnb,hxb,hsb] at F0
 try rw [hnb]
 try rw [hxb]
 try rw [hsb]
 generalize World.alloc (World.alloc (World.alloc w _) _) _ = W0 at F0 ⊢
 clear hnb hxb hsb
 have k2_0 : W0.cell? ⟨sb,0,none⟩ = some (.slice A l.length c):=F0.out.cell 2 0 rfl rfl; have k2_1 : W0.cell? ⟨sb,1,none⟩ = some (.slice B set.length d):=F0.out.cell 2 1 rfl rfl; have k2_2 : W0.cell? ⟨sb,2,none⟩ = some (.slice C its.length e0):=F0.out.cell 2 2 rfl rfl
 have k1_0 : W0.cell? ⟨xb,0,none⟩ = some (.int .i64 kd):=F0.out.cell 1 0 rfl rfl; have k1_1 : W0.cell? ⟨xb,1,none⟩ = some (.string ⟨fr.toArray⟩):=F0.out.cell 1 1 rfl rfl; have k1_2 : W0.cell? ⟨xb,2,none⟩ = some (.int .i64 sq):=F0.out.cell 1 2 rfl rfl; have k1_3 : W0.cell? ⟨xb,3,none⟩ = some (.string ⟨dt.toArray⟩):=F0.out.cell 1 3 rfl rfl; have k1_4 : W0.cell? ⟨xb,4,none⟩ = some (.int .i64 am):=F0.out.cell 1 4 rfl rfl; have k1_5 : W0.cell? ⟨xb,5,none⟩ = some (.string ⟨ky.toArray⟩):=F0.out.cell 1 5 rfl rfl; have k1_6 : W0.cell? ⟨xb,6,none⟩ = some (.string ⟨vl.toArray⟩):=F0.out.cell 1 6 rfl rfl; have k1_7 : W0.cell? ⟨xb,7,none⟩ = some (.slice mA mm.length mc):=F0.out.cell 1 7 rfl rfl
 have k0_0 : W0.cell? ⟨nb,0,none⟩ = some (.string ⟨n0.toArray⟩):=F0.out.cell 0 0 rfl rfl; have k0_1 : W0.cell? ⟨nb,1,none⟩ = some (.string ⟨n1.toArray⟩):=F0.out.cell 0 1 rfl rfl
 go_wp2_with fail
 have F1:=Live.ha F0 #[.int .i64 kd,.string ⟨fr.toArray⟩,.int .i64 sq,.string ⟨dt.toArray⟩,.int .i64 am,.string ⟨ky.toArray⟩,.string ⟨vl.toArray⟩,.slice mA mm.length mc] 43
 generalize W0.alloc (.cells #[.int .i64 kd,.string ⟨fr.toArray⟩,.int .i64 sq,.string ⟨dt.toArray⟩,.int .i64 am,.string ⟨ky.toArray⟩,.string ⟨vl.toArray⟩,.slice mA mm.length mc] 43) = w1 at F1 ⊢
 generalize W0.heap.size = lb at F1 ⊢
 clear F0 k0_0 k0_1 k1_0 k1_1 k1_2 k1_3 k1_4 k1_5 k1_6 k1_7 k2_0 k2_1 k2_2
 refine (HBg.out _ (some ⟨lb,0,none⟩) F1.out.b ⟨reads_blk16 (F1.out.blk 0 rfl) (by simp),fun p hp=>by rw [List.mem_singleton] at hp; subst hp; exact HMm.out _ F1.out.b,fun p hp=>by rw [List.mem_singleton] at hp; subst hp; exact HOk.out,by simp⟩).mono ?_
 rintro e w2 ⟨b,rfl,hb,hbg⟩
 have F2:=Live.hb F1 hb
 clear hb F1 HBg
 have k1_0 : w2.cell? ⟨nb,0,none⟩ = some (.string ⟨n0.toArray⟩):=F2.out.cell 1 0 rfl rfl; have k1_1 : w2.cell? ⟨nb,1,none⟩ = some (.string ⟨n1.toArray⟩):=F2.out.cell 1 1 rfl rfl
 cases b with
 | true =>
  clear hbg
  go_wp2_with fail
  refine (law16_works _ (HTb.out.next F2.out.b)).mono ?_
  rintro e w3 ⟨rfl,hb⟩
  have F3:=Live.hb F2 hb
  clear hb
  go_wp2_with fail
  exact HP.out _ F3.out.b
 | false =>
 have H20:=Lib.hid (hbg rfl).1.2.1
 clear hbg
 by_cases h0 : 100 < n0.length
 ·have h0' : (100 : Int) < n0.length:=by omega
  clear h0
  go_wp2_with fail
  refine (law16_works _ (HTb.out.next F2.out.b)).mono ?_
  rintro e w3 ⟨rfl,hb⟩
  have F3:=Live.hb F2 hb
  clear hb
  go_wp2_with fail
  exact HP.out _ F3.out.b
 have h0' : ((100 : Int) < n0.length) = False:=by simp; omega
 by_cases h1 : 100 < n1.length
 ·have h1' : (100 : Int) < n1.length:=by omega
  clear h0 h1
  go_wp2_with fail
  refine (law16_works _ (HTb.out.next F2.out.b)).mono ?_
  rintro e w3 ⟨rfl,hb⟩
  have F3:=Live.hb F2 hb
  clear hb
  go_wp2_with fail
  exact HP.out _ F3.out.b
 have h1' : ((100 : Int) < n1.length) = False:=by simp; omega
 have HBn2:=Lib.hid (HBn.out _ F2.out.b H20.out)
 have HG:=Lib.hid (HGd.out H20.out)
 clear h0 h1 HBn HGd
 have k3_0 : w2.cell? ⟨sb,0,none⟩ = some (.slice A l.length c):=F2.out.cell 3 0 rfl rfl; have k3_1 : w2.cell? ⟨sb,1,none⟩ = some (.slice B set.length d):=F2.out.cell 3 1 rfl rfl; have k3_2 : w2.cell? ⟨sb,2,none⟩ = some (.slice C its.length e0):=F2.out.cell 3 2 rfl rfl
 go_wp2_with fail
 refine HBn2.out.mono ?_
 rintro e w3 ⟨v3,A3,n3,c3,rfl,hb,hk,hn⟩
 have F3:=Live.hb F2 hb
 have K3:=Lib.hid hk
 clear hb F2 k1_0 k1_1 k3_0 k3_1 k3_2 HBn2 h0' h1' hk
 by_cases hc : cd = 0
 rotate_left
 ·obtain rfl:=hn hc
  clear hc hn
  go_wp2_with fail
  refine (law16_works _ (HTb.out.next F3.out.b)).mono ?_
  rintro e w4 ⟨rfl,hb⟩
  have F4:=Live.hb F3 hb
  clear hb
  go_wp2_with fail
  exact HP.out _ F4.out.b
 have K3:=Lib.hid (K3.out hc)
 obtain ⟨_,p3,x3,rfl,_⟩:=id K3.out.1
 clear hc hn
 have HDo2:=Lib.hid (HDo.out w3 T _ F3.out.b K3.out.1 (by have:=HG.out.2; omega))
 have HDr2:=Lib.hid (fun W (hW : Below w3.heap.size w3 W)=>HDr.out W T A3 n3 c3 (F3.out.b.nxt hW) HG.out.1 (K3.out.2.next hW) (by have:=HG.out.2; omega))
 have HDg:=Lib.hid (Ex.doW_good HG.out.1 ⟨kd,fr,sq,dt,am,ky,vl,mm⟩)
 clear HDo HDr
 generalize Ex.doW T ⟨kd,fr,sq,dt,am,ky,vl,mm⟩ = rr at *
 obtain ⟨U,cd2⟩:=rr
 simp only at HDg
 have HCt : Hid (Trie.count U ≤ 1000):=Lib.hid (by have:=HDg.out.2; have:=HG.out.2; omega)
 have hee : ((cd2 : Int) != cd2) = false:=by simp
 have k2_0 : w3.cell? ⟨xb,0,none⟩ = some (.int .i64 kd):=F3.out.cell 2 0 rfl rfl; have k2_1 : w3.cell? ⟨xb,1,none⟩ = some (.string ⟨fr.toArray⟩):=F3.out.cell 2 1 rfl rfl; have k2_2 : w3.cell? ⟨xb,2,none⟩ = some (.int .i64 sq):=F3.out.cell 2 2 rfl rfl; have k2_3 : w3.cell? ⟨xb,3,none⟩ = some (.string ⟨dt.toArray⟩):=F3.out.cell 2 3 rfl rfl; have k2_4 : w3.cell? ⟨xb,4,none⟩ = some (.int .i64 am):=F3.out.cell 2 4 rfl rfl; have k2_5 : w3.cell? ⟨xb,5,none⟩ = some (.string ⟨ky.toArray⟩):=F3.out.cell 2 5 rfl rfl; have k2_6 : w3.cell? ⟨xb,6,none⟩ = some (.string ⟨vl.toArray⟩):=F3.out.cell 2 6 rfl rfl; have k2_7 : w3.cell? ⟨xb,7,none⟩ = some (.slice mA mm.length mc):=F3.out.cell 2 7 rfl rfl
 go_wp2_with fail
 refine HDo2.out.mono ?_
 rintro e w4 ⟨v4,rfl,hb,hk4,hn4⟩
 have F4:=Live.hb F3 hb
 have B4:=Lib.hid hb
 have K4:=Lib.hid hk4
 clear hb F3 k2_0 k2_1 k2_2 k2_3 k2_4 k2_5 k2_6 k2_7 HDo2 hk4
 have k2_0 : w4.cell? ⟨xb,0,none⟩ = some (.int .i64 kd):=F4.out.cell 2 0 rfl rfl; have k2_1 : w4.cell? ⟨xb,1,none⟩ = some (.string ⟨fr.toArray⟩):=F4.out.cell 2 1 rfl rfl; have k2_2 : w4.cell? ⟨xb,2,none⟩ = some (.int .i64 sq):=F4.out.cell 2 2 rfl rfl; have k2_3 : w4.cell? ⟨xb,3,none⟩ = some (.string ⟨dt.toArray⟩):=F4.out.cell 2 3 rfl rfl; have k2_4 : w4.cell? ⟨xb,4,none⟩ = some (.int .i64 am):=F4.out.cell 2 4 rfl rfl; have k2_5 : w4.cell? ⟨xb,5,none⟩ = some (.string ⟨ky.toArray⟩):=F4.out.cell 2 5 rfl rfl; have k2_6 : w4.cell? ⟨xb,6,none⟩ = some (.string ⟨vl.toArray⟩):=F4.out.cell 2 6 rfl rfl; have k2_7 : w4.cell? ⟨xb,7,none⟩ = some (.slice mA mm.length mc):=F4.out.cell 2 7 rfl rfl
 go_wp2_with fail
 refine (HDr2.out _ B4.out).mono ?_
 rintro e w5 ⟨A5,n5,c5,rfl,hb,hI5,_⟩
 have F5:=Live.hb F4 hb
 have K5:=Lib.hid (fun e : cd2 = 0=>And.intro ((K4.out e).next hb) (hI5 e).1)
 have M5:=Lib.hid (And.intro (K3.out.1.next (B4.out.nxt hb)) (K3.out.2.next (B4.out.nxt hb)))
 clear hb F4 k2_0 k2_1 k2_2 k2_3 k2_4 k2_5 k2_6 k2_7 HDr2 K4 K3 hI5 B4
 go_upto_region 8 with fail
 go_cut [87] (fun s wx=>s = .bool false ∧ Live w wx [(lb,43,#[.int .i64 kd,.string ⟨fr.toArray⟩,.int .i64 sq,.string ⟨dt.toArray⟩,.int .i64 am,.string ⟨ky.toArray⟩,.string ⟨vl.toArray⟩,.slice mA mm.length mc]),(nb,44,#[.string ⟨n0.toArray⟩,.string ⟨n1.toArray⟩]),(xb,43,#[.int .i64 kd,.string ⟨fr.toArray⟩,.int .i64 sq,.string ⟨dt.toArray⟩,.int .i64 am,.string ⟨ky.toArray⟩,.string ⟨vl.toArray⟩,.slice mA mm.length mc]),(sb,41,#[.slice A l.length c,.slice B set.length d,.slice C its.length e0])] ∧ TrieP wx T (.pointer (some ⟨p3,0,none⟩)) ∧ IAt wx A3 n3 c3 T)
 case first =>
  by_cases h2 : cd2 = 0
  ·subst h2
   have K6:=Lib.hid (K5.out rfl)
   obtain ⟨_,p4,x4,rfl,_⟩:=id K6.out.1
   obtain ⟨iq,hiq⟩ : ∃ iq,Trie.itemsW U = iq:=⟨_,rfl⟩
   have HIt:=Lib.hid (trie_Items w5 U _ K6.out.1 (by have:=HCt.out; omega))
   have HQl : Hid ((Trie.itemsW U).length ≤ 1000):=Lib.hid (by rw [items_len]; exact HCt.out)
   have HIq:=Lib.hid hiq
   rw [hiq] at HIt HQl
   clear hiq K5 hn4
   go_wp2_with fail
   refine HIt.out.mono ?_
   rintro e w8 ⟨A8,n8,c8,rfl,hn8,own8,hb⟩
   subst hn8
   have F8:=Live.hb F5 hb
   have R8:=Lib.hid (Reads.of_own own8)
   have K8:=Lib.hid (K6.out.2.next hb)
   have M8:=Lib.hid (And.intro (M5.out.1.next hb) (M5.out.2.next hb))
   clear hb own8 F5 HIt M5 K6
   have RB : Hid (Reads w8 w8.heap.size 2 A5 n5 (icells iq) ∧ n5 ≤ 1048576 ∧ iq.length ≤ 1048576):=Lib.hid ⟨HIq.out ▸ K8.out.hr,by have:=HQl.out; have:=K8.out.hn; rw [HIq.out] at this; omega,by have:=HQl.out; omega⟩
   go_wp2_with fail
   refine (book_SameItems A8 A5 iq.length n5 c8 c5 iq iq w8 R8.out RB.out.1 RB.out.2.2 RB.out.2.1).mono ?_
   rw [decide_eq_true rfl]
   rintro e w9 ⟨rfl,hb⟩
   have F9:=Live.hb F8 hb
   have M9:=Lib.hid (And.intro (M8.out.1.next hb) (M8.out.2.next hb))
   clear hb F8 K8 R8 M8
   go_wp2_with fail
   go_meet
   exact ⟨rfl,F9.out,M9.out.1,M9.out.2⟩
  ·obtain rfl:=hn4 h2
   have h2' : ((cd2 : Int) != 0) = true:=by simp; exact h2
   clear h2 hn4 K5
   go_wp2_with fail
   go_meet
   exact ⟨rfl,F5.out,M5.out.1,M5.out.2⟩
 case rest =>
 obtain ⟨h87,hL,hTP,hIA⟩:=hcut
 subst h87
 have F10:=Lib.hid hL
 have K10:=Lib.hid (And.intro hTP hIA)
 clear hL hTP hIA F5 M5 K5 hn4 hee HCt HDg
 have C1:=Lib.hid (fun W v (hk : TrieP W T v)=>HA0.out W T v hk)
 have C2:=Lib.hid (fun W A n c (hI : IAt W A n c T)=>HRa.out W T A n c HG.out.1 (by have:=HG.out.2; omega) hI)
 have C3:=Lib.hid (fun W v (hk : TrieP W T v)=>HD1.out W T v hk)
 have C4:=Lib.hid (fun W A n c (hI : IAt W A n c T)=>HRd.out W T A n c HG.out.1 (by have:=HG.out.2; omega) hI)
 clear HA0 HRa HD1 HRd HG
 unfold AccEnd at C1 C2
 unfold TGetEnd at C3 C4
 generalize accW T n0 = r1 at *
 obtain ⟨⟨an,aa,aq⟩,ac⟩:=r1
 generalize dataW T n1 = r2 at *
 obtain ⟨pv,pc⟩:=r2
 try simp only at C1 C2 C3 C4
 have EQ:=fun w=>ac_same2 w an (aa : Int) (aq : Int)
 have g1 : ((ac : Int) == ac) = true:=by simp
 have g2 : (pv == pv) = true:=by simp
 have g3 : ((pc : Int) == pc) = true:=by simp
 have k1_0:=(F10.out.cell 1 0 rfl rfl : World.cell? _ ⟨nb,0,none⟩ = some (.string ⟨n0.toArray⟩))
 go_wp2_with fail
 refine (C1.out _ _ K10.out.1).mono ?_
 rintro e w11 ⟨rfl,hb⟩
 have F11:=Live.hb F10 hb
 have K11:=Lib.hid (And.intro (K10.out.1.next hb) (K10.out.2.next hb))
 clear hb F10 K10 k1_0 C1
 go_upto_region 11 with fail
 have F12:=Live.ha F11 #[.string ⟨an.toArray⟩,.int .i64 (aa : Int),.int .i64 (aq : Int)] 56
 have K12:=Lib.hid (And.intro (K11.out.1.next ((Below.refl _ w11).alloc (Nat.le_refl _) (.cells #[.string ⟨an.toArray⟩,.int .i64 (aa : Int),.int .i64 (aq : Int)] 56))) (K11.out.2.next ((Below.refl _ w11).alloc (Nat.le_refl _) (.cells #[.string ⟨an.toArray⟩,.int .i64 (aa : Int),.int .i64 (aq : Int)] 56))))
 generalize w11.alloc (.cells #[.string ⟨an.toArray⟩,.int .i64 (aa : Int),.int .i64 (aq : Int)] 56) = w12 at F12 K12 ⊢
 generalize w11.heap.size = ab at F12 ⊢
 clear F11 K11
 have k1_0 : w12.cell? ⟨nb,0,none⟩ = some (.string ⟨n0.toArray⟩):=F12.out.cell 2 0 rfl rfl
 go_wp2_with fail
 refine (C2.out _ _ _ _ K12.out.2).mono ?_
 rintro e w13 ⟨rfl,hb⟩
 have F13:=Live.hb F12 hb
 have K13:=Lib.hid (And.intro (K12.out.1.next hb) (K12.out.2.next hb))
 clear hb F12 K12 k1_0 C2
 go_upto_region 12 with fail
 have F14:=Live.ha F13 #[.string ⟨an.toArray⟩,.int .i64 (aa : Int),.int .i64 (aq : Int)] 56
 have K14:=Lib.hid (And.intro (K13.out.1.next ((Below.refl _ w13).alloc (Nat.le_refl _) (.cells #[.string ⟨an.toArray⟩,.int .i64 (aa : Int),.int .i64 (aq : Int)] 56))) (K13.out.2.next ((Below.refl _ w13).alloc (Nat.le_refl _) (.cells #[.string ⟨an.toArray⟩,.int .i64 (aa : Int),.int .i64 (aq : Int)] 56))))
 generalize w13.alloc (.cells #[.string ⟨an.toArray⟩,.int .i64 (aa : Int),.int .i64 (aq : Int)] 56) = w14 at F14 K14 ⊢
 generalize w13.heap.size = bb at F14 ⊢
 clear F13 K13
 have k1_1 : w14.cell? ⟨nb,1,none⟩ = some (.string ⟨n1.toArray⟩):=F14.out.cell 3 1 rfl rfl
 go_wp2_with fail
 refine (C3.out _ _ K14.out.1).mono ?_
 rintro e w15 ⟨rfl,hb⟩
 have F15:=Live.hb F14 hb
 have K15:=Lib.hid (K14.out.2.next hb)
 clear hb F14 K14 k1_1 C3
 have k1_1 : w15.cell? ⟨nb,1,none⟩ = some (.string ⟨n1.toArray⟩):=F15.out.cell 3 1 rfl rfl
 go_wp2_with fail
 refine (C4.out _ _ _ _ K15.out).mono ?_
 rintro e w16 ⟨rfl,hb⟩
 have F16:=Live.hb F15 hb
 clear hb F15 K15 k1_1 C4
 have k0_0 : w16.cell? ⟨bb,0,none⟩ = some (.string ⟨an.toArray⟩):=F16.out.cell 0 0 rfl rfl; have k0_1 : w16.cell? ⟨bb,1,none⟩ = some (.int .i64 (aa : Int)):=F16.out.cell 0 1 rfl rfl; have k0_2 : w16.cell? ⟨bb,2,none⟩ = some (.int .i64 (aq : Int)):=F16.out.cell 0 2 rfl rfl
 have k1_0 : w16.cell? ⟨ab,0,none⟩ = some (.string ⟨an.toArray⟩):=F16.out.cell 1 0 rfl rfl; have k1_1 : w16.cell? ⟨ab,1,none⟩ = some (.int .i64 (aa : Int)):=F16.out.cell 1 1 rfl rfl; have k1_2 : w16.cell? ⟨ab,2,none⟩ = some (.int .i64 (aq : Int)):=F16.out.cell 1 2 rfl rfl
 go_wp2_with fail
 refine (law16_works _ (HTb.out.next F16.out.b)).mono ?_
 rintro e w17 ⟨rfl,hb⟩
 have F17:=Live.hb F16 hb
 clear hb
 go_wp2_with fail
 exact HP.out _ F17.out.b
end Go.Proofs.YtomnlhbioijfhaaGreatDoor
