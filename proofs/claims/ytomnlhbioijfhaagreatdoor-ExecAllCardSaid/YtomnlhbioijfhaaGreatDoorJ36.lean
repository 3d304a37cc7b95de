import Derived.Test.YtomnlhbioijfhaaGreatDoorJ35
import Derived.Test.YtomnlhbioijfhaaGreatDoorJ23
import Derived.Test.YtomnlhbioijfhaaGreatDoorJ28
set_option linter.unusedSimpArgs false
set_option linter.unusedVariables false
namespace Go.Proofs.YtomnlhbioijfhaaGreatDoor
open Go.RowKit Go.Instr
attribute [local go_sem] ba_get ByteArray.mk_append_mk
attribute [local go_sem ↓] Go.wp_at_zero Go.wp_at_succ
theorem IAt.nil (w : World) : IAt w none 0 0 .nil:=⟨rfl,Nat.le_refl _,⟨0,World.ownsRow_nil _ _ _ _⟩⟩
set_option maxRecDepth 100000 in
set_option maxHeartbeats 4000000 in
theorem ref16_Genesis (w : World) (l : List Ex.Ac) (hs : ∀ x ∈ l,x.1.length ≤ 9223372036854775807) (A : Option Addr) (c : Nat) (HR : Reads w w.heap.size 3 A l.length (acells l)) (set : List Pw.Mem) (hm : ∀ x ∈ set,x.1.length ≤ 9223372036854775807) (B : Option Addr) (d : Nat) (HS : Reads w w.heap.size 2 B set.length (mcells set)) :
  Calls Tryz.prog 45 #[.slice A l.length c,.slice B set.length d] w (DoIEnd w (Ex.genW l set).1 (Ex.genW l set).2):=by
 have HP : Hid (∀ t' cd A' n' c' w',Ex.genW l set = (t',cd) → Below w.heap.size w w' → (cd = 0 → IAt w' A' n' c' t' ∧ ∀ a,A' = some a → w.heap.size ≤ a.block) → (cd ≠ 0 → n' = 0) → DoIEnd w (Ex.genW l set).1 (Ex.genW l set).2 (.returned (.tuple #[.slice A' n' c',.int .i64 (cd : Int)])) w'):=Lib.hid (fun t' cd A' n' c' w' e h1 h2 h3=>by rw [e]; exact ⟨A',n',c',rfl,h1,h2,h3⟩)
 generalize DoIEnd w (Ex.genW l set).1 (Ex.genW l set).2 = P at HP ⊢
 have HX : Hid (Ex.genW l set = if 8 < l.length then (.nil,2) else if (Ex.genA .nil l).2 ≠ 0 then (.nil,(Ex.genA .nil l).2) else if Pw.okM set = false then (.nil,50)
  else (Trie.put (Ex.genA .nil l).1 (Nib.of Ex.sKey) (Pw.digM set),0)):=Lib.hid rfl
 generalize Ex.genW l set = X at *
 by_cases h8 : 8 < l.length
 ·have h8' : (8 : Int) < l.length:=by omega
  have HE : Hid (X = (.nil,2)):=Lib.hid (by rw [HX.out,if_pos h8])
  clear HX h8 HR HS hs hm
  go_enter Tryz.func45,Tryz.ntmps45
  go_wp2
  exact HP.out .nil 2 none 0 0 _ HE.out (Below.refl _ _) (fun h=>by cases h) (fun _=>rfl)
 have h8' : ((8 : Int) < l.length) = False:=by simp; omega
 have HX:=Lib.hid (HX.out.trans (if_neg h8))
 have HL8:=Lib.hid (Nat.le_of_not_lt h8)
 have HRR:=Lib.hid HR
 have HSl:=Lib.hid hs
 have HCk:=Lib.hid (fun W (hW : Below w.heap.size w W)=>ref05_Check W set hm B d ((HS.below hW).more hW.size))
 have HDg : Hid (∀ W,Below w.heap.size w W → Calls Tryz.prog 57 #[.slice B set.length d] W (Ret W (.string ⟨(Pw.digM set).toArray⟩))):=Lib.hid (fun W hW=>ref05_Digest W set hm B d ((HS.below hW).more hW.size))
 have hDl:=Lib.hid (fun h=>Pw.digM_len (l:=set) h)
 generalize Pw.okM set = ok at *
 generalize Pw.digM set = dg at *
 have HGA : Hid (∀ t c,Ex.genA .nil l = (t,c) → c ≠ 0 → X = (.nil,c)):=Lib.hid (fun t c e hc=>by rw [HX.out,e,if_pos hc])
 have HGB : Hid (∀ t,Ex.genA .nil l = (t,0) → X = if ok = false then (.nil,50) else (Trie.put t (Nib.of [115]) dg,0)):=Lib.hid (fun t e=>by rw [HX.out,e,if_neg (by simp)]; rfl)
 clear HR HS hs hm h8 HX
 go_enter Tryz.func45,Tryz.ntmps45
 go_wp2_with fail
 refine wp_loop_ghost_k (fun k a wr => ∀ Φ : Act → Prop,(∀ (s2 s3 s4 s5 s8 s9 s10 s11 s12 s13 s14 s15 s16 s17 s18 s19 s20 s21 s22 s23 s24 s25 s26 s27 s28 s29 s30 s31 s32 s33 s34 s35 s36 s37 s38 s39 s40 s41 s42 s43 s44 s45 s46 s47 s48 s49 s50 s51 s52 s53 s54 s55 s56 s57 s58 s59 s60 s61 s62 s63 s64 s65 s66 s67 s68 s69 s70 s71 s72 s73 s74 s75 s76 s77 s78 s79 s80 : Value) (i : Nat) (t : Trie.T) (I : Option Addr) (n1 : Nat) (c1 : Nat),(i + k = l.length ∧ Ex.genA .nil l = Ex.genA t (l.drop i) ∧ Trie.count t ≤ i ∧ Trie.Good t ∧ IAt wr I n1 c1 t ∧ Below w.heap.size w wr) → Φ { tmps:=#[.slice A l.length c,.slice B set.length d,s2,s3,s4,s5,.slice I n1 c1,.int .i64 (i : Int),s8,s9,s10,s11,s12,s13,s14,s15,s16,s17,s18,s19,s20,s21,s22,s23,s24,s25,s26,s27,s28,s29,s30,s31,s32,s33,s34,s35,s36,s37,s38,s39,s40,s41,s42,s43,s44,s45,s46,s47,s48,s49,s50,s51,s52,s53,s54,s55,s56,s57,s58,s59,s60,s61,s62,s63,s64,s65,s66,s67,s68,s69,s70,s71,s72,s73,s74,s75,s76,s77,s78,s79,s80],defers := [] }) → Φ a) (l.length) ?_ ?_
 ·refine fun Φ hΦ=>hΦ _ _ _ _ _ _ _ _ _ _ _ _ _ _ _ _ _ _ _ _ _ _ _ _ _ _ _ _ _ _ _ _ _ _ _ _ _ _ _ _ _ _ _ _ _ _ _ _ _ _ _ _ _ _ _ _ _ _ _ _ _ _ _ _ _ _ _ _ _ _ _ _ _ _ _ _ _ (0) (.nil) (none) (0) (0) ?_
  exact ⟨by omega,rfl,by simp [Trie.count],Trie.Good.nil,IAt.nil _,Below.refl _ _⟩
 ·intro k1 a1 wr1 hI1 J1 K1 hJ1 hK1
  refine hI1 (fun a=>Code.wp _ _ _ a _) ?_
  clear hI1 a1
  intro s0 s1 s2 s3 s4 s5 s6 s7 s8 s9 s10 s11 s12 s13 s14 s15 s16 s17 s18 s19 s20 s21 s22 s23 s24 s25 s26 s27 s28 s29 s30 s31 s32 s33 s34 s35 s36 s37 s38 s39 s40 s41 s42 s43 s44 s45 s46 s47 s48 s49 s50 s51 s52 s53 s54 s55 s56 s57 s58 s59 s60 s61 s62 s63 s64 s65 s66 s67 s68 s69 s70 s71 s72 s73 s74 s75 s76 i t I n1 c1 hrel
  show Code.wp _ _ _ _ _
  obtain ⟨h1,h2,h3,hg,hI,hb⟩:=hrel
  by_cases hi : i < l.length
  ·obtain ⟨ad,off,rfl,hbl,hcell⟩:=ac_cells HRR.out hi
   obtain ⟨r0,r1,r2⟩:=hcell _ hb
   have hi1 : (i : Int) < l.length:=by omega
   have hi0 : (0 : Int) ≤ i:=by omega
   have hi8 : (i : Int) < 8:=by have:=HL8.out; omega
   have hd : l.drop i = l[i] :: l.drop (i + 1):=List.drop_eq_getElem_cons hi
   have hlen:=HSl.out _ (List.getElem_mem hi)
   rw [hd] at h2
   have HI:=Lib.hid (And.intro h1 (And.intro h2 (And.intro h3 (And.intro hg (And.intro hI hb)))))
   have HC:=Lib.hid hcell
   clear h1 h2 h3 hg hI hb hcell hd hbl
   generalize l[i] = x at *
   obtain ⟨n,am,sq⟩:=x
   simp only at r0 r1 r2 hlen HC
   have HQ0 : Hid (Ex.genA t ((n,am,sq) :: l.drop (i + 1)) = if Ex.okA (n,am,sq) = false then (t,1) else if (Trie.getW t (97 :: 58 :: n)).2 = 0 then (t,6) else Ex.genA (Trie.put t (Nib.of (97 :: 58 :: n)) (Ex.writA (am.toNat,sq.toNat))) (l.drop (i + 1))):=Lib.hid rfl
   have HA : Hid (Ex.okA (n,am,sq) = (Ex.nameW n && (decide (0 ≤ am) && decide (am ≤ 1099511627776)) && (decide (0 ≤ sq) && decide (sq ≤ 1099511627776)))):=Lib.hid rfl
   have HN:=Lib.hid (fun W=>ref15_Name n hlen W)
   have HWa:=Lib.hid (fun W=>ref16_within am W)
   have HWs:=Lib.hid (fun W=>ref16_within sq W)
   cases hn : Ex.nameW n with
   | false =>
    have HE : Hid (X = (.nil,1)):=Lib.hid (HGA.out t 1 (HI.out.2.1.trans (by rw [HQ0.out,HA.out,hn]; rfl)) (by decide))
    rw [hn] at HN
    clear hn HA HQ0
    go_wp2_with fail
    refine (HN.out _).mono ?_
    rintro e w2 ⟨rfl,rfl⟩
    go_wp2_with fail
    exact HP.out .nil 1 none 0 0 _ HE.out HI.out.2.2.2.2.2 (fun h=>by cases h) (fun _=>rfl)
   | true =>
   rw [hn] at HN HA
   rw [Bool.true_and] at HA
   have hn6:=(Ex.nameW_len hn).2
   clear hn
   go_wp2_with fail
   refine (HN.out _).mono ?_
   rintro e w2 ⟨rfl,rfl⟩
   cases ha : (decide (0 ≤ am) && decide (am ≤ 1099511627776)) with
   | false =>
    have HE : Hid (X = (.nil,1)):=Lib.hid (HGA.out t 1 (HI.out.2.1.trans (by rw [HQ0.out,HA.out,ha]; rfl)) (by decide))
    rw [ha] at HWa
    clear ha HA HQ0
    go_wp2_with fail
    refine (HWa.out _).mono ?_
    rintro e w2 ⟨rfl,rfl⟩
    go_wp2_with fail
    exact HP.out .nil 1 none 0 0 _ HE.out HI.out.2.2.2.2.2 (fun h=>by cases h) (fun _=>rfl)
   | true =>
   rw [ha] at HWa HA
   rw [Bool.true_and] at HA
   simp only [Bool.and_eq_true,decide_eq_true_eq] at ha
   go_wp2_with fail
   refine (HWa.out _).mono ?_
   rintro e w2 ⟨rfl,rfl⟩
   cases hq : (decide (0 ≤ sq) && decide (sq ≤ 1099511627776)) with
   | false =>
    have HE : Hid (X = (.nil,1)):=Lib.hid (HGA.out t 1 (HI.out.2.1.trans (by rw [HQ0.out,HA.out,hq]; rfl)) (by decide))
    rw [hq] at HWs
    clear hq HA HQ0
    go_wp2_with fail
    refine (HWs.out _).mono ?_
    rintro e w2 ⟨rfl,rfl⟩
    go_wp2_with fail
    exact HP.out .nil 1 none 0 0 _ HE.out HI.out.2.2.2.2.2 (fun h=>by cases h) (fun _=>rfl)
   | true =>
   rw [hq] at HWs HA
   simp only [Bool.and_eq_true,decide_eq_true_eq] at hq
   go_wp2_with fail
   refine (HWs.out _).mono ?_
   rintro e w2 ⟨rfl,rfl⟩
   have HQ1:=Lib.hid (HQ0.out.trans (by rw [HA.out,if_neg (by decide)]))
   obtain ⟨a,rfl⟩:=Int.eq_ofNat_of_zero_le ha.1
   obtain ⟨q,rfl⟩:=Int.eq_ofNat_of_zero_le hq.1
   simp only [Int.toNat_natCast] at HQ1
   have HAt : Hid (Calls Tryz.prog 68 #[.slice I n1 c1,.string ⟨(97 :: 58 :: n).toArray⟩] wr1 (AtIEnd wr1 (Trie.itemsW t) (97 :: 58 :: n))):=Lib.hid (by
    have h:=HI.out.2.2.2.2.1
    have:=ref10_At wr1 I c1 (Trie.itemsW t) (h.hn ▸ h.hr) (by rw [items_len]; have:=HI.out.2.2.1; omega) (97 :: 58 :: n)
    rwa [← h.hn] at this)
   obtain ⟨hat1,hat2⟩:=at_getW HI.out.2.2.2.1 (k:=97 :: 58 :: n) (Ex.keyed_a hn6)
   have HV : Hid (∀ W,Calls Tryz.prog 55 #[.agg #[.string ⟨n.toArray⟩,.int .i64 (a : Int),.int .i64 (q : Int)]] W (Ret W (.string ⟨(Ex.writA (a,q)).toArray⟩))):=Lib.hid (fun W=>ref16_Value W n a q (by omega) (by omega))
   have hpc:=Ex.putCode_a (n:=n) hn6 (p:=(a,q)) (by simp only; omega) (by simp only; omega)
   have HPt : Hid (∀ W,Below wr1.heap.size wr1 W → Calls Tryz.prog 47 #[.slice I n1 c1,.string ⟨(97 :: 58 :: n).toArray⟩,.string ⟨(Ex.writA (a,q)).toArray⟩] W (DoIEnd W (Trie.put t (Nib.of (97 :: 58 :: n)) (Ex.writA (a,q))) 0)):=Lib.hid (fun W hW=>items_Put W t HI.out.2.2.2.1 (by have:=HI.out.2.2.1; omega) I n1 c1 (HI.out.2.2.2.2.1.next hW) _ _ hpc (by simp only [List.length_cons]; omega) (by have:=(Ex.writA_len (p:=(a,q)) (by simp only; omega) (by simp only; omega)).2; omega))
   have HCn : Hid (Trie.count (Trie.put t (Nib.of (97 :: 58 :: n)) (Ex.writA (a,q))) ≤ i + 1 ∧ Trie.Good (Trie.put t (Nib.of (97 :: 58 :: n)) (Ex.writA (a,q)))):=Lib.hid ⟨by have:=Trie.count_put t (Nib.of (97 :: 58 :: n)) (Ex.writA (a,q)); have:=HI.out.2.2.1; omega,Ex.good_putA HI.out.2.2.2.1 hn6 (by simp only; omega) (by simp only; omega)⟩
   have hsum : 2 + n.length ≤ 9223372036854775807:=by omega
   have hsum2 : n.length + 2 ≤ 9223372036854775807:=by omega
   have hsum3 : n.length + 1 + 1 ≤ 9223372036854775807:=by omega
   have hnl1 : (9223372036854775807 < 2 + n.length) = False:=by simp; omega
   have hnl2 : (9223372036854775807 < n.length + 2) = False:=by simp; omega
   have hnl3 : (9223372036854775807 < n.length + 1 + 1) = False:=by simp; omega
   clear hpc ha hq HA HQ0 HN HWa HWs hlen hn6
   generalize Ex.writA (a,q) = wt at *
   generalize Trie.put t (Nib.of (97 :: 58 :: n)) wt = t2 at *
   unfold AtIEnd at HAt
   cases hb2 : (Trie.atI (97 :: 58 :: n) (Trie.itemsW t)).2 with
   | true =>
    obtain ⟨_,hrv⟩:=hat1 hb2
    have HE : Hid (X = (.nil,6)):=Lib.hid (HGA.out t 6 (HI.out.2.1.trans (by rw [HQ1.out,if_pos (by rw [hrv])])) (by decide))
    rw [hb2] at HAt
    generalize (Trie.atI (97 :: 58 :: n) (Trie.itemsW t)).1 = ix at *
    clear HQ1 hat1 hat2 hb2 hrv
    go_wp2_with fail
    refine HAt.out.mono ?_
    rintro e w2 ⟨rfl,hb⟩
    have B2:=Lib.hid (HI.out.2.2.2.2.2.nxt hb)
    clear hb
    go_wp2_with fail
    exact HP.out .nil 6 none 0 0 _ HE.out B2.out (fun h=>by cases h) (fun _=>rfl)
   | false =>
   have HQ:=Lib.hid (HQ1.out.trans (if_neg (by rw [hat2 hb2]; decide)))
   rw [hb2] at HAt
   generalize (Trie.atI (97 :: 58 :: n) (Trie.itemsW t)).1 = ix at *
   clear HQ1 hat1 hat2 hb2
   go_wp2_with fail
   refine HAt.out.mono ?_
   rintro e w2 ⟨rfl,hb⟩
   have F:=Live.hb (Lib.hid (Live.start wr1)) hb
   clear hb r0 r1 r2 HAt
   obtain ⟨r0,r1,r2⟩:=HC.out _ (HI.out.2.2.2.2.2.nxt F.out.b)
   go_upto_region 12 with fail
   go_region_held3 (fun w'=>w'.cell? ⟨ad,off + i * 3,none⟩ = some (.string ⟨n.toArray⟩) ∧ w'.cell? ⟨ad,off + i * 3 + 1,none⟩ = some (.int .i64 (a : Int)) ∧ w'.cell? ⟨ad,off + i * 3 + 2,none⟩ = some (.int .i64 (q : Int))) (first | go_keep | (refine ⟨?_, ?_, ?_⟩ <;> assumption)) (first | (go_at_call 55; ((with_reducible refine (HV.out _).mono ?_); (rintro e w3 ⟨rfl,hb⟩; (first | have F:=Live.hb F hb | have F:=Live.hbd F hb); clear hb; obtain ⟨r0,r1,r2⟩:=HC.out _ (HI.out.2.2.2.2.2.nxt F.out.b)))) | (go_at_call 47; ((with_reducible refine (HPt.out _ ?_).mono ?_); (first | exact F.out.b | exact F.out.b.drew); (rintro e w4 ⟨A4,n4,c4,rfl,hb,hI4,_⟩; have K4:=Lib.hid (hI4 rfl).1; (first | have F:=Live.hb F hb | have F:=Live.hbd F hb); clear hb hI4; obtain ⟨r0,r1,r2⟩:=HC.out _ (HI.out.2.2.2.2.2.nxt F.out.b)))))
   all_goals go_wp2_with fail
   all_goals
    refine Handed.intro (l.length - (i + 1)) ?_ (hJ1 _ _ _ (fun Φ hΦ=>hΦ _ _ _ _ _ _ _ _ _ _ _ _ _ _ _ _ _ _ _ _ _ _ _ _ _ _ _ _ _ _ _ _ _ _ _ _ _ _ _ _ _ _ _ _ _ _ _ _ _ _ _ _ _ _ _ _ _ _ _ _ _ _ _ _ _ _ _ _ _ _ _ _ _ _ _ _ _ (i + 1) (t2) (A4) (n4) (c4) ?_))
    ·have:=HI.out.1; omega
    exact ⟨by have:=HI.out.1; omega,HI.out.2.1.trans HQ.out,HCn.out.1,HCn.out.2,K4.out,HI.out.2.2.2.2.2.nxt F.out.b⟩
  ·have hi1 : ((i : Int) < l.length) = False:=by simp; omega
   have HGe : Hid (Ex.genA .nil l = (t,0)):=Lib.hid (by rw [h2,List.drop_of_length_le (by omega)]; rfl)
   have HE:=Lib.hid (HGB.out t HGe.out)
   have HI:=Lib.hid (And.intro h3 (And.intro hg (And.intro hI hb)))
   have HCk1:=Lib.hid (HCk.out _ hb)
   have HDg1:=Lib.hid (fun W (hW : Below wr1.heap.size wr1 W)=>HDg.out W (hb.nxt hW))
   have HiL : Hid (i ≤ 8):=Lib.hid (by have:=HL8.out; omega)
   clear h1 h2 h3 hg hI hb hi HGA HGB HGe HCk HDg
   cases ok with
   | false =>
    rw [if_pos rfl] at HE
    unfold codeM at HCk1
    simp only [Bool.false_eq_true,if_false] at HCk1
    go_wp2_with fail
    refine HCk1.out.mono ?_
    rintro e w2 ⟨rfl,hb⟩
    have B2:=Lib.hid hb
    clear hb
    go_wp2_with fail
    exact HP.out .nil 50 none 0 0 _ HE.out (HI.out.2.2.2.nxt B2.out) (fun h=>by cases h) (fun _=>rfl)
   | true =>
    rw [if_neg (by decide)] at HE
    unfold codeM at HCk1
    simp only [if_true] at HCk1
    have hdl:=hDl.out rfl
    have hpc : Trie.putCode [115] dg = 0:=Ex.putCode_v (k := [115]) (v:=dg) rfl (by omega) (by omega)
    have HPt : Hid (∀ W,Below wr1.heap.size wr1 W → Calls Tryz.prog 47 #[.slice I n1 c1,.string ⟨#[115]⟩,.string ⟨dg.toArray⟩] W (DoIEnd W (Trie.put t (Nib.of [115]) dg) 0)):=Lib.hid (fun W hW=>items_Put W t HI.out.2.1 (by have:=HI.out.1; have:=HiL.out; omega) I n1 c1 (HI.out.2.2.1.next hW) [115] dg hpc (by simp) (by omega))
    clear hpc hdl hDl
    go_wp2_with fail
    refine HCk1.out.mono ?_
    rintro e w2 ⟨rfl,hb⟩
    have B2:=Lib.hid hb
    clear hb
    go_wp2_with fail
    refine (HDg1.out _ B2.out).mono ?_
    rintro e w3 ⟨rfl,hb⟩
    have B3:=Lib.hid (B2.out.nxt hb)
    clear hb B2
    go_wp2_with fail
    refine (HPt.out _ B3.out).mono ?_
    rintro e w4 ⟨A4,n4,c4,rfl,hb,hI4,_⟩
    have B4:=Lib.hid (HI.out.2.2.2.nxt (B3.out.nxt hb))
    have K4 : Hid (IAt w4 A4 n4 c4 (Trie.put t (Nib.of [115]) dg) ∧ ∀ a,A4 = some a → w.heap.size ≤ a.block):=Lib.hid ⟨(hI4 rfl).1,fun a e=>Nat.le_trans (HI.out.2.2.2.nxt B3.out).size ((hI4 rfl).2 a e)⟩
    clear hb hI4
    go_wp2_with fail
    exact HP.out _ 0 _ _ _ _ HE.out B4.out (fun _=>K4.out) (fun h=>absurd rfl h)
def begT : Trie.T → List Trie.KV → Trie.T
 | t, []=>t
 | t,x :: r=>begT (if Trie.putCode x.1 x.2 = 0 then Trie.put t (Nib.of x.1) x.2 else t) r
theorem putCode_ok {k v : List UInt8} (h : Trie.putCode k v = 0) : Trie.keyedW k = true ∧ v ≠ [] ∧ v.length ≤ 32:=by
 unfold Trie.putCode at h
 split at h
 ·rename_i hk
  split at h
  ·cases h
  ·rename_i hv
   simp only [Bool.or_eq_true,decide_eq_true_eq,List.isEmpty_iff,not_or] at hv
   exact ⟨hk,hv.1,by omega⟩
 ·cases h
theorem begT_step {t : Trie.T} (h : Trie.Good t) (x : Trie.KV) : Trie.Good (if Trie.putCode x.1 x.2 = 0 then Trie.put t (Nib.of x.1) x.2 else t) ∧ Trie.count (if Trie.putCode x.1 x.2 = 0 then Trie.put t (Nib.of x.1) x.2 else t) ≤ Trie.count t + 1:=by
 split
 ·rename_i hp
  obtain ⟨h1,h2,h3⟩:=putCode_ok hp
  exact ⟨Trie.Good.put h h1 h2 h3,Trie.count_put _ _ _⟩
 ·exact ⟨h,by omega⟩
theorem begT_good : ∀ (l : List Trie.KV) (t : Trie.T),Trie.Good t → Trie.Good (begT t l) ∧ Trie.count (begT t l) ≤ Trie.count t + l.length
 | [],t,h=>⟨h,by simp [begT]⟩
 | x :: r,t,h=>by
  obtain ⟨h1,h2⟩:=begT_step h x
  obtain ⟨h3,h4⟩:=begT_good r _ h1
  refine ⟨h3, ?_⟩
  simp only [begT,List.length_cons]
  omega
def PutCEnd (w : World) (t : Trie.T) (cd : Nat) (e : Ending) (w' : World) : Prop :=
 ∃ A n c,e = .returned (.tuple #[.slice A n c,.int .i64 (cd : Int)]) ∧ Below w.heap.size w w' ∧ (cd = 0 → IAt w' A n c t)
theorem items_PutC (w : World) (t : Trie.T) (hg : Trie.Good t) (hcn : Trie.count t ≤ 1000) (A : Option Addr) (n c : Nat) (h : IAt w A n c t) (k v : List UInt8) (hk : k.length ≤ 9223372036854775807) (hv : v.length ≤ 9223372036854775807) :
  Calls Tryz.prog 47 #[.slice A n c,.string ⟨k.toArray⟩,.string ⟨v.toArray⟩] w (PutCEnd w (Trie.put t (Nib.of k) v) (Trie.putCode k v)):=by
 have hr:=h.hr
 obtain ⟨rfl,hc,_⟩:=h
 obtain ⟨h1,h2⟩:=Trie.rput_put hg k v
 refine (ref10_Put w A c (Trie.itemsW t) hr hc (by rw [items_len]; exact hcn) k v hk hv).mono ?_
 rintro e w' ⟨A',n',c',rfl,hn,hc',own,hb⟩
 rw [h1]
 refine ⟨A',n',c',rfl,hb,fun h => ?_⟩
 rw [h2 h] at hn own
 exact ⟨hn,hc',⟨_,own⟩⟩
def BegEnd (w : World) (T : Trie.T) (cd : Nat) (e : Ending) (w' : World) : Prop :=
 ∃ v A n c,e = .returned (.tuple #[v,.slice A n c,.bool true]) ∧ Below w.heap.size w w' ∧ (cd = 0 → TrieP w' T v ∧ IAt w' A n c T) ∧ (cd ≠ 0 → v = .pointer none)
set_option maxRecDepth 100000 in
set_option maxHeartbeats 4000000 in
theorem law16_begun (w : World) (A : Option Addr) (c : Nat) (l : List Ex.Ac) (B : Option Addr) (d : Nat) (set : List Pw.Mem) (C : Option Addr) (e0 : Nat) (its : List Trie.KV) (h : StartAt w A l B set C its) (h20 : its.length ≤ 20) (hT : Tbl w) :
  Calls Tryz.prog 16 #[.agg #[.slice A l.length c,.slice B set.length d,.slice C its.length e0]] w (BegEnd w (begT (Ex.genW l set).1 its) (Ex.genW l set).2):=by
 have HP : Hid (∀ cd T v A n c w',(Ex.genW l set).2 = cd → begT (Ex.genW l set).1 its = T → Below w.heap.size w w' → (cd = 0 → TrieP w' T v ∧ IAt w' A n c T) → (cd ≠ 0 → v = .pointer none) → BegEnd w (begT (Ex.genW l set).1 its) (Ex.genW l set).2 (.returned (.tuple #[v,.slice A n c,.bool true])) w'):=Lib.hid (fun cd T v A n c w' e1 e2 h1 h2 h3=>by rw [e1,e2]; exact ⟨v,A,n,c,rfl,h1,h2,h3⟩)
 generalize BegEnd w (begT (Ex.genW l set).1 its) (Ex.genW l set).2 = P at HP ⊢
 have HG:=Lib.hid (fun W (hW : Below w.heap.size w W)=>exec_Genesis W l h.al A c (h.next hW).a set h.sl B d (h.next hW).s (hT.next hW))
 have HR:=Lib.hid (fun W (hW : Below w.heap.size w W)=>ref16_Genesis W l h.al A c (h.next hW).a set h.sl B d (h.next hW).s)
 have HGd:=Lib.hid (Ex.genW_good l set)
 have HRI:=Lib.hid h.i
 have HIl:=Lib.hid h.il
 have HTb:=Lib.hid hT
 have HL:=Lib.hid h20
 generalize Ex.genW l set = r at *
 obtain ⟨t0,cd⟩:=r
 simp only at HG HP HR HGd
 clear h hT h20
 go_enter Tryz.func16,Tryz.ntmps16
 go_upto_region 1 with fail
 have F0:=Live.ha (Lib.hid (Live.start w)) #[.slice A l.length c,.slice B set.length d,.slice C its.length e0] 41
 generalize w.alloc (.cells #[.slice A l.length c,.slice B set.length d,.slice C its.length e0] 41) = W0 at F0 ⊢
 generalize w.heap.size = sb at F0 ⊢
 have k0_0 : W0.cell? ⟨sb,0,none⟩ = some (.slice A l.length c):=F0.out.cell 0 0 rfl rfl; have k0_1 : W0.cell? ⟨sb,1,none⟩ = some (.slice B set.length d):=F0.out.cell 0 1 rfl rfl; have k0_2 : W0.cell? ⟨sb,2,none⟩ = some (.slice C its.length e0):=F0.out.cell 0 2 rfl rfl
 go_wp2_with fail
 refine (HG.out _ F0.out.b).mono ?_
 rintro e w1 ⟨v,rfl,hb,hk,hn⟩
 have F1:=Live.hb F0 hb
 clear hb F0 k0_0 k0_1 k0_2 HG
 have k0_0 : w1.cell? ⟨sb,0,none⟩ = some (.slice A l.length c):=F1.out.cell 0 0 rfl rfl; have k0_1 : w1.cell? ⟨sb,1,none⟩ = some (.slice B set.length d):=F1.out.cell 0 1 rfl rfl; have k0_2 : w1.cell? ⟨sb,2,none⟩ = some (.slice C its.length e0):=F1.out.cell 0 2 rfl rfl
 go_wp2_with fail
 refine (HR.out _ F1.out.b).mono ?_
 rintro e w2 ⟨I0,n0,c0,rfl,hb,hI,hn0⟩
 have F2:=Live.hb F1 hb
 have K2:=Lib.hid (fun e : cd = 0=>And.intro ((hk e).next hb) (hI e).1)
 have hee : ((cd : Int) != cd) = false:=by simp
 have hee2 : ((cd : Int) == cd) = true:=by simp
 clear hb F1 k0_0 k0_1 k0_2 HR hk hI hn0
 by_cases hc : cd = 0
 rotate_left
 ·obtain rfl:=hn hc
  have HC:=Lib.hid hc
  clear hc hn
  go_wp2_with fail
  exact HP.out cd _ _ _ _ _ _ rfl rfl F2.out.b (fun h=>absurd h HC.out) (fun _=>rfl)
 subst hc
 have K3:=Lib.hid (K2.out rfl)
 obtain ⟨_,p2,x2,rfl,_⟩:=id K3.out.1
 have HB0:=Lib.hid (And.intro HGd.out.1 HGd.out.2)
 clear hn hee hee2 K2
 go_wp2_with fail
 refine wp_loop_ghost_k (fun k a wr => ∀ Φ : Act → Prop,(∀ (s0 s2 s3 s4 s6 s8 s10 s11 s12 s13 s14 s15 s16 s17 s18 s19 s20 s21 s22 s23 s24 s25 s26 s27 s28 s29 s30 s31 s32 s33 s34 s35 s36 s37 s38 s39 s40 s41 s42 s43 s44 s45 s46 s47 s48 s49 s50 s51 s52 s53 s54 s55 s56 s57 s58 s59 s60 s61 s62 s63 s64 s65 s66 s67 s68 s69 s70 s71 s72 s73 s74 s75 s76 s77 s78 s79 s80 s81 s82 s83 s84 s85 s86 s87 s88 s89 s90 s91 s92 s93 : Value) (i : Nat) (t : Trie.T) (v : Value) (I : Option Addr) (n1 : Nat) (c1 : Nat),(i + k = its.length ∧ begT t0 its = begT t (its.drop i) ∧ Trie.count t ≤ 100 + i ∧ Trie.Good t ∧ TrieP wr t v ∧ IAt wr I n1 c1 t ∧ Live w wr [(sb,41,#[.slice A l.length c,.slice B set.length d,.slice C its.length e0])]) → Φ { tmps:=#[s0,.pointer (some ⟨sb,0,none⟩),s2,s3,s4,v,s6,.slice I n1 c1,s8,.int .i64 (i : Int),s10,s11,s12,s13,s14,s15,s16,s17,s18,s19,s20,s21,s22,s23,s24,s25,s26,s27,s28,s29,s30,s31,s32,s33,s34,s35,s36,s37,s38,s39,s40,s41,s42,s43,s44,s45,s46,s47,s48,s49,s50,s51,s52,s53,s54,s55,s56,s57,s58,s59,s60,s61,s62,s63,s64,s65,s66,s67,s68,s69,s70,s71,s72,s73,s74,s75,s76,s77,s78,s79,s80,s81,s82,s83,s84,s85,s86,s87,s88,s89,s90,s91,s92,s93],defers := [] }) → Φ a) (its.length) ?_ ?_
 ·refine fun Φ hΦ=>hΦ _ _ _ _ _ _ _ _ _ _ _ _ _ _ _ _ _ _ _ _ _ _ _ _ _ _ _ _ _ _ _ _ _ _ _ _ _ _ _ _ _ _ _ _ _ _ _ _ _ _ _ _ _ _ _ _ _ _ _ _ _ _ _ _ _ _ _ _ _ _ _ _ _ _ _ _ _ _ _ _ _ _ _ _ _ _ _ _ _ _ (0) (t0) (_) (I0) (n0) (c0) ?_
  exact ⟨by omega,rfl,by have:=HB0.out.2; omega,HB0.out.1,K3.out.1,K3.out.2,F2.out⟩
 ·intro k1 a1 wr1 hI1 J1 K1 hJ1 hK1
  refine hI1 (fun a=>Code.wp _ _ _ a _) ?_
  clear hI1 a1
  intro s0 s1 s2 s3 s4 s5 s6 s7 s8 s9 s10 s11 s12 s13 s14 s15 s16 s17 s18 s19 s20 s21 s22 s23 s24 s25 s26 s27 s28 s29 s30 s31 s32 s33 s34 s35 s36 s37 s38 s39 s40 s41 s42 s43 s44 s45 s46 s47 s48 s49 s50 s51 s52 s53 s54 s55 s56 s57 s58 s59 s60 s61 s62 s63 s64 s65 s66 s67 s68 s69 s70 s71 s72 s73 s74 s75 s76 s77 s78 s79 s80 s81 s82 s83 s84 s85 s86 s87 s88 s89 i t v I n1 c1 hrel
  show Code.wp _ _ _ _ _
  obtain ⟨h1,h2,h3,hg,hk,hI,hF⟩:=hrel
  obtain ⟨_,pv,px,rfl,_⟩:=id hk
  have F:=Lib.hid hF
  have k0_2 : wr1.cell? ⟨sb,2,none⟩ = some (.slice C its.length e0):=hF.cell 0 2 rfl rfl
  by_cases hi : i < its.length
  ·obtain ⟨ad,off,rfl,hbl,hcell⟩:=icell_cells HRI.out hi
   obtain ⟨q0,q1⟩:=hcell _ hF.b
   have hi1 : (i : Int) < its.length:=by omega
   have hi0 : (0 : Int) ≤ i:=by omega
   have hi20 : (i : Int) < 20:=by have:=HL.out; omega
   have hd : its.drop i = its[i] :: its.drop (i + 1):=List.drop_eq_getElem_cons hi
   have hlen:=HIl.out _ (List.getElem_mem hi)
   rw [hd,begT] at h2
   have HI:=Lib.hid (And.intro h1 (And.intro h2 (And.intro h3 (And.intro hg (And.intro hk hI)))))
   have HSt:=Lib.hid (begT_step hg its[i])
   have HC:=Lib.hid hcell
   clear h1 h2 h3 hg hk hI hF hcell hd hbl
   generalize its[i] = x at *
   obtain ⟨kk,vv⟩:=x
   simp only at q0 q1 hlen HC HI HSt
   have HPt : Hid (∀ W,Below wr1.heap.size wr1 W → Calls Tryz.prog 46 #[.pointer (some ⟨pv,0,none⟩),.string ⟨kk.toArray⟩,.string ⟨vv.toArray⟩] W (TPutEnd W (Trie.put t (Nib.of kk) vv) (Trie.putCode kk vv))):=Lib.hid (fun W hW=>trie_Put W t _ (HI.out.2.2.2.2.1.next hW) (by have:=HI.out.2.2.1; omega) (HTb.out.next (F.out.b.nxt hW)) kk vv hlen.1 hlen.2)
   have HPr : Hid (∀ W,Below wr1.heap.size wr1 W → Calls Tryz.prog 47 #[.slice I n1 c1,.string ⟨kk.toArray⟩,.string ⟨vv.toArray⟩] W (PutCEnd W (Trie.put t (Nib.of kk) vv) (Trie.putCode kk vv))):=Lib.hid (fun W hW=>items_PutC W t HI.out.2.2.2.1 (by have:=HI.out.2.2.1; omega) I n1 c1 (HI.out.2.2.2.2.2.next hW) kk vv hlen.1 hlen.2)
   generalize Trie.put t (Nib.of kk) vv = t2 at *
   generalize Trie.putCode kk vv = pc at *
   have hpp : ((pc : Int) != pc) = false:=by simp
   have F1:=F
   have F:=Lib.hid (Live.start wr1)
   go_upto_region 8 with fail
   go_region_held3 (fun w'=>w'.cell? ⟨sb,2,none⟩ = some (.slice (some ⟨ad,off,none⟩) its.length e0) ∧ w'.cell? ⟨ad,off + i * 2,none⟩ = some (.string ⟨kk.toArray⟩) ∧ w'.cell? ⟨ad,off + i * 2 + 1,none⟩ = some (.string ⟨vv.toArray⟩)) (first | go_keep | (refine ⟨?_, ?_, ?_⟩ <;> assumption)) ((go_at_call 46; ((with_reducible refine (HPt.out _ ?_).mono ?_); (first | exact F.out.b | exact F.out.b.drew); (rintro e w3 ⟨v4,rfl,hb,hk4,_⟩; have HK4:=Lib.hid hk4; clear hk4; (first | have F:=Live.hb F hb | have F:=Live.hbd F hb); clear hb; obtain ⟨q0,q1⟩:=HC.out _ (F1.out.b.nxt F.out.b); have k0_2 : w3.cell? ⟨sb,2,none⟩ = some (.slice (some ⟨ad,off,none⟩) its.length e0):=(Live.hb F1 F.out.b).out.cell 0 2 rfl rfl))))
   go_upto_region 9 with fail
   go_region_held3 (fun w'=>w'.cell? ⟨sb,2,none⟩ = some (.slice (some ⟨ad,off,none⟩) its.length e0) ∧ w'.cell? ⟨ad,off + i * 2,none⟩ = some (.string ⟨kk.toArray⟩) ∧ w'.cell? ⟨ad,off + i * 2 + 1,none⟩ = some (.string ⟨vv.toArray⟩)) (first | go_keep | (refine ⟨?_, ?_, ?_⟩ <;> assumption)) ((go_at_call 47; ((with_reducible refine (HPr.out _ ?_).mono ?_); (first | exact F.out.b | exact F.out.b.drew); (rintro e w4 ⟨A5,n5,c5,rfl,hb,hI5⟩; have HI5:=Lib.hid hI5; have hb5 : Below w3.heap.size w3 w4:=(by first | exact hb | exact hb.start); have HB5:=Lib.hid hb5; clear hb5 hI5; (first | have F:=Live.hb F hb | have F:=Live.hbd F hb); clear hb; obtain ⟨q0,q1⟩:=HC.out _ (F1.out.b.nxt F.out.b); have k0_2 : w4.cell? ⟨sb,2,none⟩ = some (.slice (some ⟨ad,off,none⟩) its.length e0):=(Live.hb F1 F.out.b).out.cell 0 2 rfl rfl))))
   have F5:=Live.hb F1 F.out.b
   have K5:=Lib.hid (And.intro (fun e : pc = 0=>(HK4.out e).next HB5.out) HI5.out)
   by_cases hpc : pc = 0
   ·subst hpc
    have K6:=Lib.hid (And.intro (K5.out.1 rfl) (K5.out.2 rfl))
    rw [if_pos rfl] at HSt
    have HS2:=Lib.hid (HI.out.2.1.trans (by rw [if_pos rfl]))
    obtain ⟨_,p4,x4,rfl,_⟩:=id K6.out.1
    clear K5 HK4 HI5
    go_wp2_with fail
    refine Handed.intro (its.length - (i + 1)) ?_ (hJ1 _ _ _ (fun Φ hΦ=>hΦ _ _ _ _ _ _ _ _ _ _ _ _ _ _ _ _ _ _ _ _ _ _ _ _ _ _ _ _ _ _ _ _ _ _ _ _ _ _ _ _ _ _ _ _ _ _ _ _ _ _ _ _ _ _ _ _ _ _ _ _ _ _ _ _ _ _ _ _ _ _ _ _ _ _ _ _ _ _ _ _ _ _ _ _ _ _ _ _ _ _ (i + 1) (t2) (.pointer (some ⟨p4,0,none⟩)) (A5) (n5) (c5) ?_))
    ·have:=HI.out.1; omega
    exact ⟨by have:=HI.out.1; omega,HS2.out,by have:=HSt.out.2; have:=HI.out.2.2.1; omega,HSt.out.1,K6.out.1,K6.out.2,F5.out⟩
   ·have hp0 : ((pc : Int) == 0) = false:=by rw [beq_eq_false_iff_ne]; omega
    have HPc:=Lib.hid hpc
    clear hpc
    go_wp2_with fail
    refine Handed.intro (its.length - (i + 1)) ?_ (hJ1 _ _ _ (fun Φ hΦ=>hΦ _ _ _ _ _ _ _ _ _ _ _ _ _ _ _ _ _ _ _ _ _ _ _ _ _ _ _ _ _ _ _ _ _ _ _ _ _ _ _ _ _ _ _ _ _ _ _ _ _ _ _ _ _ _ _ _ _ _ _ _ _ _ _ _ _ _ _ _ _ _ _ _ _ _ _ _ _ _ _ _ _ _ _ _ _ _ _ _ _ _ (i + 1) (t) (.pointer (some ⟨pv,0,none⟩)) (I) (n1) (c1) ?_))
    ·have:=HI.out.1; omega
    exact ⟨by have:=HI.out.1; omega,HI.out.2.1.trans (by rw [if_neg HPc.out]),by have:=HI.out.2.2.1; omega,HI.out.2.2.2.1,HI.out.2.2.2.2.1.next F.out.b,HI.out.2.2.2.2.2.next F.out.b,F5.out⟩
  ·have hi1 : ((i : Int) < its.length) = False:=by simp; omega
   have HT2 : Hid (begT t0 its = t):=Lib.hid (by rw [h2,List.drop_of_length_le (by omega)]; rfl)
   have HI:=Lib.hid (And.intro h3 (And.intro hk hI))
   have HIt:=Lib.hid (trie_Items wr1 t _ hk (by have:=HL.out; omega))
   have HQl : Hid ((Trie.itemsW t).length ≤ 1000):=Lib.hid (by rw [items_len]; have:=HL.out; omega)
   clear h1 h2 h3 hg hk hI hF hi
   obtain ⟨iq,hiq⟩ : ∃ iq,Trie.itemsW t = iq:=⟨_,rfl⟩
   have HIq:=Lib.hid hiq
   rw [hiq] at HIt HQl
   clear hiq
   go_wp2_with fail
   refine HIt.out.mono ?_
   rintro e w8 ⟨A8,n8,c8,rfl,hn8,own8,hb⟩
   subst hn8
   have F8:=Live.hb F hb
   have R8:=Lib.hid (Reads.of_own own8)
   have K8:=Lib.hid (And.intro (HI.out.2.1.next hb) (HI.out.2.2.next hb))
   clear hb own8 F HIt
   go_wp2_with fail
   have RB : Hid (Reads w8 w8.heap.size 2 I n1 (icells iq) ∧ n1 ≤ 1048576 ∧ iq.length ≤ 1048576):=Lib.hid ⟨HIq.out ▸ K8.out.2.hr,by have:=HQl.out; have:=K8.out.2.hn; rw [HIq.out] at this; omega,by have:=HQl.out; omega⟩
   refine (book_SameItems A8 I iq.length n1 c8 c1 iq iq w8 R8.out RB.out.1 RB.out.2.2 RB.out.2.1).mono ?_
   rw [decide_eq_true rfl]
   rintro e w9 ⟨rfl,hb⟩
   have F9:=Live.hb F8 hb
   have K9:=Lib.hid (And.intro (K8.out.1.next hb) (K8.out.2.next hb))
   clear hb F8 K8 R8
   go_wp2_with fail
   exact HP.out 0 t _ _ _ _ _ rfl HT2.out F9.out.b (fun _=>K9.out) (fun h=>absurd rfl h)
def RAllEnd (w : World) (r : (Trie.T × List Ex.Rc × List Pw.Mem) × Nat) (e : Ending) (w' : World) : Prop :=
 ∃ I n c R c2 B d,e = .returned (.tuple #[.agg #[.slice I n c,.slice R r.1.2.1.length c2,.slice B r.1.2.2.length d],.int .i64 (r.2 : Int)]) ∧ Below w.heap.size w w' ∧ (r.2 = 0 → IAt w' I n c r.1.1) ∧
  Reads w' w'.heap.size 3 R r.1.2.1.length (rcs r.1.2.1) ∧ Reads w' w'.heap.size 2 B r.1.2.2.length (mcells r.1.2.2)
set_option maxRecDepth 100000 in
set_option maxHeartbeats 4000000 in
theorem ref16_All (w : World) (t : Trie.T) (hg : Trie.Good t) (hcn : Trie.count t ≤ 800) (A0 : Option Addr) (n c0 : Nat) (HI : IAt w A0 n c0 t) (l : List TxM) (A : Option Addr) (c : Nat) (HL : TxsAt w A l) :
  Calls Tryz.prog 25 #[.slice A0 n c0,.slice A l.length c] w (RAllEnd w (allX t (l.map (·.1)))):=by
 have HPe : Hid (∀ (cd : Nat) w',allX t (l.map (·.1)) = ((.nil, [], []),cd) → cd ≠ 0 → Below w.heap.size w w' → RAllEnd w (allX t (l.map (·.1))) (.returned (.tuple #[.agg #[.slice none 0 0,.slice none 0 0,.slice none 0 0],.int .i64 (cd : Int)])) w'):=Lib.hid (fun cd w' e hc hb=>by
  rw [e]; exact ⟨_,0,0,none,0,none,0,rfl,hb,fun h=>absurd h hc,Reads.none_,Reads.none_⟩)
 have HPo : Hid (∀ t' D M I n c R c2 B d w',allX t (l.map (·.1)) = ((t',D,M),0) → Below w.heap.size w w' → IAt w' I n c t' → Reads w' w'.heap.size 3 R D.length (rcs D) → Reads w' w'.heap.size 2 B M.length (mcells M) → RAllEnd w (allX t (l.map (·.1))) (.returned (.tuple #[.agg #[.slice I n c,.slice R D.length c2,.slice B M.length d],.int .i64 0])) w'):=Lib.hid (fun t' D M I n c R c2 B d w' e hb h1 h2 h3=>by
  rw [e]; exact ⟨I,n,c,R,c2,B,d,rfl,hb,fun _=>h1,h2,h3⟩)
 generalize RAllEnd w (allX t (l.map (·.1))) = P at HPe HPo ⊢
 have HX : Hid (allX t (l.map (·.1)) = if 8 < l.length then ((.nil, [], []),2) else if (l.all fun p=>Ex.fineX p.1) = false then ((.nil, [], []),150) else (Ex.allGo t (l.map (·.1)) [],0)):=Lib.hid (by unfold allX; rw [List.length_map,List.all_map]; rfl)
 generalize allX t (l.map (·.1)) = X at *
 have HLL:=Lib.hid HL
 have HIt:=Lib.hid (And.intro hg (And.intro hcn HI))
 clear HL hg hcn HI
 go_enter Tryz.func25,Tryz.ntmps25
 go_upto_region 1 with fail
 have F0:=Live.ha (Lib.hid (Live.start w)) #[.slice none 0 0,.slice none 0 0,.slice none 0 0] 68
 generalize w.alloc (.cells #[.slice none 0 0,.slice none 0 0,.slice none 0 0] 68) = W0 at F0 ⊢
 generalize w.heap.size = rb at F0 ⊢
 by_cases h8 : 8 < l.length
 ·have h8' : (8 : Int) < l.length:=by omega
  have HE : Hid (X = ((.nil, [], []),2)):=Lib.hid (by rw [HX.out,if_pos h8])
  clear HX h8
  have r0 : W0.cell? ⟨rb,0,none⟩ = some (.slice none 0 0):=F0.out.cell 0 0 rfl rfl
  have r1 : W0.cell? ⟨rb,1,none⟩ = some (.slice none 0 0):=F0.out.cell 0 1 rfl rfl
  have r2 : W0.cell? ⟨rb,2,none⟩ = some (.slice none 0 0):=F0.out.cell 0 2 rfl rfl
  have f0 : W0.frozen? ⟨rb,0,none⟩ = false:=F0.out.frozen 0 0 rfl
  have f1 : W0.frozen? ⟨rb,1,none⟩ = false:=F0.out.frozen 0 1 rfl
  have f2 : W0.frozen? ⟨rb,2,none⟩ = false:=F0.out.frozen 0 2 rfl
  go_wp2_with fail
  have F9 : Hid (Live w (((W0.setCell ⟨rb,0,none⟩ (.slice none 0 0)).setCell ⟨rb,1,none⟩ (.slice none 0 0)).setCell ⟨rb,2,none⟩ (.slice none 0 0)) [(rb,68,#[.slice none 0 0,.slice none 0 0,.slice none 0 0])]):=Lib.hid (((F0.out.set 0 0 _ rfl).set 0 1 _ rfl).set 0 2 _ rfl)
  generalize ((W0.setCell ⟨rb,0,none⟩ (.slice none 0 0)).setCell ⟨rb,1,none⟩ (.slice none 0 0)).setCell ⟨rb,2,none⟩ (.slice none 0 0) = W9 at F9 ⊢
  have s0 : W9.cell? ⟨rb,0,none⟩ = some (.slice none 0 0):=F9.out.cell 0 0 rfl rfl
  have s1 : W9.cell? ⟨rb,1,none⟩ = some (.slice none 0 0):=F9.out.cell 0 1 rfl rfl
  have s2 : W9.cell? ⟨rb,2,none⟩ = some (.slice none 0 0):=F9.out.cell 0 2 rfl rfl
  (try simp only [Exit.inBlock,Exit.then])
  refine bodyPost_ret (v:=.tuple #[.agg #[.slice none 0 0,.slice none 0 0,.slice none 0 0],.int .i64 ((2 : Nat) : Int)]) (by simp [results,Tryz.results25,go_sem,s0,s1,s2]) rfl ?_
  exact HPe.out 2 _ HE.out (by decide) F9.out.b
 have h8' : ((8 : Int) < l.length) = False:=by simp; omega
 have HX:=Lib.hid (HX.out.trans (if_neg h8))
 have HL8:=Lib.hid (Nat.le_of_not_lt h8)
 clear h8
 go_wp2_with fail
 refine wp_loop_ghost_k (fun k a wr => ∀ Φ : Act → Prop,(∀ (s2 s3 s5 s7 s8 s9 s10 s11 s12 s13 s14 s15 s16 s17 s18 s19 s20 s21 s22 s23 s24 s25 s26 s27 s28 s29 s30 s31 s32 s33 s34 s35 s36 s37 s38 s39 s40 s41 s42 s43 s44 s45 s46 s47 s48 s49 s50 s51 s52 s53 s54 s55 s56 s57 s58 s59 s60 s61 s62 s63 s64 s65 s66 s67 s68 s69 : Value) (i : Nat),(i + k = l.length ∧ (l.take i).all (fun p=>Ex.fineX p.1) = true ∧ Live w wr [(rb,68,#[.slice none 0 0,.slice none 0 0,.slice none 0 0])]) → Φ { tmps:=#[.slice A0 n c0,.slice A l.length c,s2,s3,.pointer (some ⟨rb,0,none⟩),s5,.int .i64 (i : Int),s7,s8,s9,s10,s11,s12,s13,s14,s15,s16,s17,s18,s19,s20,s21,s22,s23,s24,s25,s26,s27,s28,s29,s30,s31,s32,s33,s34,s35,s36,s37,s38,s39,s40,s41,s42,s43,s44,s45,s46,s47,s48,s49,s50,s51,s52,s53,s54,s55,s56,s57,s58,s59,s60,s61,s62,s63,s64,s65,s66,s67,s68,s69],defers := [] }) → Φ a) (l.length) ?_ ?_
 ·refine fun Φ hΦ=>hΦ _ _ _ _ _ _ _ _ _ _ _ _ _ _ _ _ _ _ _ _ _ _ _ _ _ _ _ _ _ _ _ _ _ _ _ _ _ _ _ _ _ _ _ _ _ _ _ _ _ _ _ _ _ _ _ _ _ _ _ _ _ _ _ _ _ _ (0) ?_
  exact ⟨by omega,rfl,F0.out⟩
 ·intro k1 a1 wr1 hI1 J1 K1 hJ1 hK1
  refine hI1 (fun a=>Code.wp _ _ _ a _) ?_
  clear hI1 a1
  intro s0 s1 s2 s3 s4 s5 s6 s7 s8 s9 s10 s11 s12 s13 s14 s15 s16 s17 s18 s19 s20 s21 s22 s23 s24 s25 s26 s27 s28 s29 s30 s31 s32 s33 s34 s35 s36 s37 s38 s39 s40 s41 s42 s43 s44 s45 s46 s47 s48 s49 s50 s51 s52 s53 s54 s55 s56 s57 s58 s59 s60 s61 s62 s63 s64 s65 i hrel
  show Code.wp _ _ _ _ _
  obtain ⟨h1,h2,hF⟩:=hrel
  by_cases hi : i < l.length
  ·have HI:=Lib.hid (And.intro h1 (And.intro h2 hF))
   have HLi:=Lib.hid (HLL.out.next hF.b)
   obtain ⟨ad,off,rfl,hbl,hcell⟩:=tx_cells HLi.out.r hi
   obtain ⟨r0,r1,r2,r3,r4,r5,r6,r7⟩:=hcell _ (Below.refl _ _)
   have hi1 : (i : Int) < l.length:=by omega
   have hi0 : (0 : Int) ≤ i:=by omega
   have hi8 : (i : Int) < 8:=by have:=HL8.out; omega
   have ht:=HLi.out.t _ (List.getElem_mem hi)
   have hm:=HLi.out.m _ (List.getElem_mem hi)
   have HStep:=Lib.hid (all_take hi h2)
   have HNo : Hid (Ex.fineX l[i].1 = false → (l.all fun p=>Ex.fineX p.1) = false):=Lib.hid (fun hx=>by
    rw [List.all_eq_false]; exact ⟨_,List.getElem_mem hi,by rw [hx]; decide⟩)
   clear h1 h2 hF hcell hbl
   generalize l[i] = p at *
   obtain ⟨⟨kd,fr,sq,dt,am,ky,vl,mm⟩,mA,mc⟩:=p
   simp only at r0 r1 r2 r3 r4 r5 r6 r7 HStep HNo hm
   obtain ⟨o1,o2,o3,o4,o5⟩:=ht
   simp only at o1 o2 o3 o4 o5
   have HCk:=Lib.hid (ref15_Fine wr1 kd fr sq dt am ky vl mm mA mc ⟨o1,o2,o3,o4,o5⟩ hm)
   clear o1 o2 o3 o4 o5 hm
   generalize Ex.fineX ⟨kd,fr,sq,dt,am,ky,vl,mm⟩ = fx at *
   go_wp2_with fail
   refine HCk.out.mono ?_
   rintro e w2 ⟨rfl,hb⟩
   have F2:=Live.hb (Lib.hid HI.out.2.2) hb
   clear hb HCk r0 r1 r2 r3 r4 r5 r6 r7
   cases fx with
   | false =>
    have HE : Hid (X = ((.nil, [], []),150)):=Lib.hid (by rw [HX.out,if_pos (HNo.out rfl)])
    clear HX HStep HNo
    have r0 : w2.cell? ⟨rb,0,none⟩ = some (.slice none 0 0):=F2.out.cell 0 0 rfl rfl
    have r1 : w2.cell? ⟨rb,1,none⟩ = some (.slice none 0 0):=F2.out.cell 0 1 rfl rfl
    have r2 : w2.cell? ⟨rb,2,none⟩ = some (.slice none 0 0):=F2.out.cell 0 2 rfl rfl
    have f0 : w2.frozen? ⟨rb,0,none⟩ = false:=F2.out.frozen 0 0 rfl
    have f1 : w2.frozen? ⟨rb,1,none⟩ = false:=F2.out.frozen 0 1 rfl
    have f2 : w2.frozen? ⟨rb,2,none⟩ = false:=F2.out.frozen 0 2 rfl
    go_wp2_with fail
    have F9 : Hid (Live w (((w2.setCell ⟨rb,0,none⟩ (.slice none 0 0)).setCell ⟨rb,1,none⟩ (.slice none 0 0)).setCell ⟨rb,2,none⟩ (.slice none 0 0)) [(rb,68,#[.slice none 0 0,.slice none 0 0,.slice none 0 0])]):=Lib.hid (((F2.out.set 0 0 _ rfl).set 0 1 _ rfl).set 0 2 _ rfl)
    generalize ((w2.setCell ⟨rb,0,none⟩ (.slice none 0 0)).setCell ⟨rb,1,none⟩ (.slice none 0 0)).setCell ⟨rb,2,none⟩ (.slice none 0 0) = W9 at F9 ⊢
    have s0 : W9.cell? ⟨rb,0,none⟩ = some (.slice none 0 0):=F9.out.cell 0 0 rfl rfl
    have s1 : W9.cell? ⟨rb,1,none⟩ = some (.slice none 0 0):=F9.out.cell 0 1 rfl rfl
    have s2 : W9.cell? ⟨rb,2,none⟩ = some (.slice none 0 0):=F9.out.cell 0 2 rfl rfl
    (try simp only [Exit.inBlock,Exit.then])
    refine bodyPost_ret (v:=.tuple #[.agg #[.slice none 0 0,.slice none 0 0,.slice none 0 0],.int .i64 ((150 : Nat) : Int)]) (by simp [results,Tryz.results25,go_sem,s0,s1,s2]) rfl ?_
    exact HPe.out 150 _ HE.out (by decide) F9.out.b
   | true =>
    go_wp2_with fail
    refine Handed.intro (l.length - (i + 1)) ?_ (hJ1 _ _ _ (fun Φ hΦ=>hΦ _ _ _ _ _ _ _ _ _ _ _ _ _ _ _ _ _ _ _ _ _ _ _ _ _ _ _ _ _ _ _ _ _ _ _ _ _ _ _ _ _ _ _ _ _ _ _ _ _ _ _ _ _ _ _ _ _ _ _ _ _ _ _ _ _ _ (i + 1) ?_))
    ·have:=HI.out.1; omega
    exact ⟨by have:=HI.out.1; omega,HStep.out (by first | exact trivial | rfl),F2.out⟩
  ·have hi1 : ((i : Int) < l.length) = False:=by simp; omega
   have HE : Hid (X = (Ex.allGo t (l.map (·.1)) [],0)):=Lib.hid (by
    rw [HX.out,if_neg]
    rw [List.take_of_length_le (by omega)] at h2
    rw [h2]; decide)
   have F1:=Lib.hid hF
   clear h1 h2 hF hi HX
   go_upto_region 9 with fail
   have F2:=Live.ha F1 #[.slice A0 n c0,.slice none 0 0,.slice none 0 0] 68
   generalize wr1.alloc (.cells #[.slice A0 n c0,.slice none 0 0,.slice none 0 0] 68) = w2 at F2 ⊢
   generalize wr1.heap.size = db at F2 ⊢
   clear F1
   go_wp2_with fail
   refine wp_loop_ghost_k (fun k a wr => ∀ Φ : Act → Prop,(∀ (s0 s2 s3 s5 s6 s9 s10 s11 s12 s13 s14 s15 s16 s17 s18 s19 s20 s21 s22 s23 s24 s25 s26 s27 s28 s29 s30 s31 s32 s33 s34 s35 s36 s37 s38 s39 s40 s41 s42 s43 s44 s45 s46 s47 s48 s49 s50 s51 s52 s53 s54 s55 s56 s57 s58 s59 s60 s61 s62 s63 s64 s65 s66 s67 s68 s69 : Value) (i : Nat) (t2 : Trie.T) (I : Option Addr) (n1 c1 : Nat) (D : List Ex.Rc) (rA : Option Addr) (rc : Nat) (M : List Pw.Mem) (mB : Option Addr) (md : Nat),(i + k = l.length ∧ X = (((Ex.allGo t2 ((l.drop i).map (·.1)) M).1,D ++ (Ex.allGo t2 ((l.drop i).map (·.1)) M).2.1,(Ex.allGo t2 ((l.drop i).map (·.1)) M).2.2),0) ∧ D.length = i ∧ Trie.count t2 ≤ 800 + 2 * i ∧ Trie.Good t2 ∧ IAt wr I n1 c1 t2 ∧ wr.ownsRow w.heap.size 136 3 (.slice rA D.length rc) D.length (rcs D) ∧ Reads w w.heap.size 2 mB M.length (mcells M) ∧ Live w wr [(db,68,#[.slice I n1 c1,.slice rA D.length rc,.slice mB M.length md]),(rb,68,#[.slice none 0 0,.slice none 0 0,.slice none 0 0])]) → Φ { tmps:=#[s0,.slice A l.length c,s2,s3,.pointer (some ⟨rb,0,none⟩),s5,s6,.pointer (some ⟨db,0,none⟩),.int .i64 (i : Int),s9,s10,s11,s12,s13,s14,s15,s16,s17,s18,s19,s20,s21,s22,s23,s24,s25,s26,s27,s28,s29,s30,s31,s32,s33,s34,s35,s36,s37,s38,s39,s40,s41,s42,s43,s44,s45,s46,s47,s48,s49,s50,s51,s52,s53,s54,s55,s56,s57,s58,s59,s60,s61,s62,s63,s64,s65,s66,s67,s68,s69],defers := [] }) → Φ a) (l.length) ?_ ?_
   ·refine fun Φ hΦ=>hΦ _ _ _ _ _ _ _ _ _ _ _ _ _ _ _ _ _ _ _ _ _ _ _ _ _ _ _ _ _ _ _ _ _ _ _ _ _ _ _ _ _ _ _ _ _ _ _ _ _ _ _ _ _ _ _ _ _ _ _ _ _ _ _ _ _ _ (0) (t) (A0) (n) (c0) ([]) (none) (0) ([]) (none) (0) ?_
    exact ⟨by omega,HE.out,rfl,HIt.out.2.1,HIt.out.1,HIt.out.2.2.next F2.out.b,World.ownsRow_nil _ _ _ _,Reads.none_,F2.out⟩
   ·intro k2 a2 wr2 hI2 J2 K2 hJ2 hK2
    refine hI2 (fun a=>Code.wp _ _ _ a _) ?_
    clear hI2 a2
    intro s0 s1 s2 s3 s4 s5 s6 s7 s8 s9 s10 s11 s12 s13 s14 s15 s16 s17 s18 s19 s20 s21 s22 s23 s24 s25 s26 s27 s28 s29 s30 s31 s32 s33 s34 s35 s36 s37 s38 s39 s40 s41 s42 s43 s44 s45 s46 s47 s48 s49 s50 s51 s52 s53 s54 s55 s56 s57 s58 s59 s60 s61 s62 s63 s64 s65 i t2 I n1 c1 D rA rc M mB md hrel
    show Code.wp _ _ _ _ _
    obtain ⟨h1,h2,h3,h4,hgd,hI,hD,hM,hF⟩:=hrel
    have k0_0 : wr2.cell? ⟨db,0,none⟩ = some (.slice I n1 c1):=hF.cell 0 0 rfl rfl
    by_cases hi : i < l.length
    ·have HI:=Lib.hid (And.intro h1 (And.intro h4 (And.intro hgd (And.intro hI (And.intro hD hM)))))
     have HLi:=Lib.hid (HLL.out.next hF.b)
     obtain ⟨ad,off,rfl,hbl,hcell⟩:=tx_cells HLi.out.r hi
     obtain ⟨r0,r1,r2,r3,r4,r5,r6,r7⟩:=hcell _ (Below.refl _ _)
     have hi1 : (i : Int) < l.length:=by omega
     have hi0 : (0 : Int) ≤ i:=by omega
     have hi8 : (i : Int) < 8:=by have:=HL8.out; omega
     have ht:=HLi.out.t _ (List.getElem_mem hi)
     have hm:=HLi.out.m _ (List.getElem_mem hi)
     have hm0:=HLL.out.m _ (List.getElem_mem hi)
     have hd : l.drop i = l[i] :: l.drop (i + 1):=List.drop_eq_getElem_cons hi
     have HDl:=Lib.hid h3
     have hDl8 : D.length < 8:=by omega
     rw [hd,List.map_cons] at h2
     have HH1:=Lib.hid h2
     have F0:=Lib.hid hF
     clear h1 h2 h3 h4 hgd hI hD hM hF hcell hbl hd
     generalize l[i] = p at *
     generalize hrest : (l.drop (i + 1)).map (·.1) = rest at *
     have HRest:=Lib.hid hrest
     clear hrest
     obtain ⟨⟨kd,fr,sq,dt,am,ky,vl,mm⟩,mA,mc⟩:=p
     simp only at r0 r1 r2 r3 r4 r5 r6 r7 HH1 hm hm0
     obtain ⟨o1,o2,o3,o4,o5⟩:=ht
     simp only at o1 o2 o3 o4 o5
     have HM0:=Lib.hid hm0
     have HDo:=Lib.hid (fun W (hW : Below wr2.heap.size wr2 W)=>ref16_Do W t2 HI.out.2.2.1 (by have:=HI.out.2.1; omega) I n1 c1 (HI.out.2.2.2.1.next hW) kd fr sq dt am ky vl mm mA mc ⟨o1,o2,o3,o4,o5⟩ ((hm.below hW).more hW.size))
     have hsame:=Ex.doW_same (t:=t2) (x:=⟨kd,fr,sq,dt,am,ky,vl,mm⟩)
     have hcnt:=Ex.doW_good HI.out.2.2.1 ⟨kd,fr,sq,dt,am,ky,vl,mm⟩
     have HH2 : Hid (X = (((Ex.allGo (Ex.doW t2 ⟨kd,fr,sq,dt,am,ky,vl,mm⟩).1 rest (if (Ex.doW t2 ⟨kd,fr,sq,dt,am,ky,vl,mm⟩).2 = 0 ∧ kd = 4 then mm else M)).1,(D ++ [(((Ex.doW t2 ⟨kd,fr,sq,dt,am,ky,vl,mm⟩).2 : Int),fr,sq)]) ++ (Ex.allGo (Ex.doW t2 ⟨kd,fr,sq,dt,am,ky,vl,mm⟩).1 rest (if (Ex.doW t2 ⟨kd,fr,sq,dt,am,ky,vl,mm⟩).2 = 0 ∧ kd = 4 then mm else M)).2.1,(Ex.allGo (Ex.doW t2 ⟨kd,fr,sq,dt,am,ky,vl,mm⟩).1 rest (if (Ex.doW t2 ⟨kd,fr,sq,dt,am,ky,vl,mm⟩).2 = 0 ∧ kd = 4 then mm else M)).2.2),0)):=Lib.hid (by
      rw [HH1.out,List.append_assoc]; rfl)
     clear HH1
     have HSame:=Lib.hid hsame
     have HCnt:=Lib.hid hcnt
     clear o1 o2 o3 o4 o5 hm hm0 hsame hcnt
     generalize Ex.doW t2 ⟨kd,fr,sq,dt,am,ky,vl,mm⟩ = dr at *
     obtain ⟨t3,cd⟩:=dr
     simp only at HDo HH2 HSame HCnt
     go_upto_region 13 with fail
     have F1:=Live.ha F0 #[.int .i64 kd,.string ⟨fr.toArray⟩,.int .i64 sq,.string ⟨dt.toArray⟩,.int .i64 am,.string ⟨ky.toArray⟩,.string ⟨vl.toArray⟩,.slice mA mm.length mc] 43
     have BB1 : Hid (Below wr2.heap.size wr2 (wr2.alloc (.cells #[.int .i64 kd,.string ⟨fr.toArray⟩,.int .i64 sq,.string ⟨dt.toArray⟩,.int .i64 am,.string ⟨ky.toArray⟩,.string ⟨vl.toArray⟩,.slice mA mm.length mc] 43))):=Lib.hid ((Below.refl _ wr2).alloc (Nat.le_refl _) _)
     generalize wr2.alloc (.cells #[.int .i64 kd,.string ⟨fr.toArray⟩,.int .i64 sq,.string ⟨dt.toArray⟩,.int .i64 am,.string ⟨ky.toArray⟩,.string ⟨vl.toArray⟩,.slice mA mm.length mc] 43) = W1 at F1 BB1 ⊢
     generalize wr2.heap.size = xb at F1 ⊢
     clear r0 r1 r2 r3 r4 r5 r6 r7 F0 k0_0
     have k1_0 : W1.cell? ⟨db,0,none⟩ = some (.slice I n1 c1):=F1.out.cell 1 0 rfl rfl
     have k0_0 : W1.cell? ⟨xb,0,none⟩ = some (.int .i64 kd):=F1.out.cell 0 0 rfl rfl; have k0_1 : W1.cell? ⟨xb,1,none⟩ = some (.string ⟨fr.toArray⟩):=F1.out.cell 0 1 rfl rfl; have k0_2 : W1.cell? ⟨xb,2,none⟩ = some (.int .i64 sq):=F1.out.cell 0 2 rfl rfl; have k0_3 : W1.cell? ⟨xb,3,none⟩ = some (.string ⟨dt.toArray⟩):=F1.out.cell 0 3 rfl rfl; have k0_4 : W1.cell? ⟨xb,4,none⟩ = some (.int .i64 am):=F1.out.cell 0 4 rfl rfl; have k0_5 : W1.cell? ⟨xb,5,none⟩ = some (.string ⟨ky.toArray⟩):=F1.out.cell 0 5 rfl rfl; have k0_6 : W1.cell? ⟨xb,6,none⟩ = some (.string ⟨vl.toArray⟩):=F1.out.cell 0 6 rfl rfl; have k0_7 : W1.cell? ⟨xb,7,none⟩ = some (.slice mA mm.length mc):=F1.out.cell 0 7 rfl rfl
     go_wp2_with fail
     refine (HDo.out _ BB1.out).mono ?_
     rintro e w3 ⟨I3,n3,c3,rfl,hb,hk3,_⟩
     have F3:=Live.hb F1 hb
     have BB3:=Lib.hid (BB1.out.nxt hb)
     have K3:=Lib.hid (fun e=>(hk3 e).1)
     clear hb hk3 F1 BB1 k1_0 k0_0 k0_1 k0_2 k0_3 k0_4 k0_5 k0_6 k0_7 HDo
     have O3:=Lib.hid (own_below HI.out.2.2.2.2.1 BB3.out)
     have T3:=Lib.hid (HI.out.2.2.2.1.next BB3.out)
     have k0_1 : w3.cell? ⟨xb,1,none⟩ = some (.string ⟨fr.toArray⟩):=F3.out.cell 0 1 rfl rfl
     have k0_2 : w3.cell? ⟨xb,2,none⟩ = some (.int .i64 sq):=F3.out.cell 0 2 rfl rfl
     have k1_1 : w3.cell? ⟨db,1,none⟩ = some (.slice rA D.length rc):=F3.out.cell 1 1 rfl rfl
     have fz1 : w3.frozen? ⟨db,1,none⟩ = false:=F3.out.frozen 1 1 rfl
     go_upto_region 15 with (at_builtin; refine wpList_append_new w3 136 [.int .i64 (cd : Int),.string ⟨fr.toArray⟩,.int .i64 sq] rfl _ _ 64 rfl w.heap.size 3 32 _ info_rc Tryz.underlying64 rfl (by decide) (.slice rA D.length rc) D.length (rcs D) rfl O3.out 1 1 rfl rfl (by simp [Value.oneCell']) (by simp only [maxLen]; omega) (by omega) w.heap.size w F3.out.b (Nat.le_refl _) F3.out.b.size ?_; intro v4 w4 own4 hb4 hg4 _ _; obtain ⟨A4,c4,rfl,_,_,_⟩:=own_form own4; have G4:=Lib.hid (And.intro own4 (And.intro hb4 hg4)); have F4:=Live.hp F3 O3.out (Nat.le_refl _) (by intro x hx; simp only [List.mem_cons,List.not_mem_nil,or_false] at hx; rcases hx with rfl | rfl | rfl <;> simp) hg4; clear own4 hb4 hg4; have fz4 : w4.frozen? ⟨db,1,none⟩ = false:=F4.out.frozen 1 1 rfl; have k4_1 : w4.cell? ⟨db,1,none⟩ = some (.slice rA D.length rc):=F4.out.cell 1 1 rfl rfl)
     have O4 : Hid (w4.ownsRow w.heap.size 136 3 (.slice A4 (D ++ [((cd : Int),fr,sq)]).length c4) (D ++ [((cd : Int),fr,sq)]).length (rcs (D ++ [((cd : Int),fr,sq)]))):=Lib.hid (by have:=G4.out.1; rw [rcs_snoc D ((cd : Int),fr,sq)] at this; rw [List.length_append]; exact this)
     have R4 : Hid (∀ I n c t,IAt w3 I n c t → IAt w4 I n c t):=Lib.hid (fun I n c t h=>h.grownO G4.out.2.2 (fun k e=>by obtain ⟨cs,hh⟩:=own_blk O3.out k e; exact ⟨_,_,hh,by decide⟩))
     have F5:=Live.hs F4 1 1 (.slice A4 (D.length + 1) c4) rfl
     simp only [List.set_cons_zero,List.setIfInBounds_toArray,List.set_cons_succ] at F5
     have hgr:=grown_cell (World.grownBy.refl w4 (some db)) 1 (.slice A4 (D.length + 1) c4)
     have O5:=Lib.hid (O4.out.kept hgr (.inr (own_blk_ne O4.out (F4.out.blk 1 rfl) (by decide))))
     have R5 : Hid (∀ I n c t,IAt w3 I n c t → IAt (w4.setCell ⟨db,1,none⟩ (.slice A4 (D.length + 1) c4)) I n c t):=Lib.hid (fun I n c t h=>(R4.out I n c t h).grownO (grown_cell (World.grownBy.refl w4 (some db)) 1 (.slice A4 (D.length + 1) c4)) (fun k e=>by injection e with e; subst e; exact ⟨_,_,F4.out.blk 1 rfl,by decide⟩))
     generalize w4.setCell ⟨db,1,none⟩ _ = w5 at F5 O5 R5 ⊢
     clear k0_1 k0_2 k1_1 fz1 G4 O3 F3 O4 R4 F4 fz4 k4_1 hgr
     rw [show D.length + 1 = (D ++ [((cd : Int),fr,sq)]).length by simp] at F5
     have HDn : Hid ((D ++ [((cd : Int),fr,sq)]).length = i + 1):=Lib.hid (by rw [List.length_append,HDl.out]; rfl)
     have T5:=Lib.hid (R5.out _ _ _ _ T3.out)
     have K5:=Lib.hid (fun e=>R5.out _ _ _ _ (K3.out e))
     clear T3 K3 R5
     by_cases hc : cd = 0
     rotate_left
     ·have hc1 : ((cd : Int) != 0) = true:=by simp; exact hc
      have hE:=HSame.out hc
      subst hE
      rw [if_neg (fun e=>hc e.1)] at HH2
      generalize (D ++ [((cd : Int),fr,sq)]) = D4 at *
      have F6:=Lib.hid (F5.out.drop 1)
      simp only [List.drop_succ_cons,List.drop_zero] at F6
      clear hc HSame K5
      go_wp2_with fail
      refine Handed.intro (l.length - (i + 1)) ?_ (hJ2 _ _ _ (fun Φ hΦ=>hΦ _ _ _ _ _ _ _ _ _ _ _ _ _ _ _ _ _ _ _ _ _ _ _ _ _ _ _ _ _ _ _ _ _ _ _ _ _ _ _ _ _ _ _ _ _ _ _ _ _ _ _ _ _ _ _ _ _ _ _ _ _ _ _ _ _ _ (i + 1) (t3) (I) (n1) (c1) (D4) (A4) (c4) (M) (mB) (md) ?_))
      ·have:=HI.out.1; omega
      exact ⟨by have:=HI.out.1; omega,by rw [HRest.out]; exact HH2.out,HDn.out,by have:=HI.out.2.1; omega,HI.out.2.2.1,T5.out,O5.out,HI.out.2.2.2.2.2,F6.out⟩
     subst hc
     have K6:=Lib.hid (K5.out rfl)
     clear K5 T5 HSame
     have k1_0 : w5.cell? ⟨db,0,none⟩ = some (.slice I n1 c1):=F5.out.cell 1 0 rfl rfl
     have fz0 : w5.frozen? ⟨db,0,none⟩ = false:=F5.out.frozen 1 0 rfl
     generalize D ++ [(((0 : Nat) : Int),fr,sq)] = D4 at *
     go_upto_region 17 with fail
     have F6:=Live.hs F5 1 0 (.slice I3 n3 c3) rfl
     simp only [List.set_cons_zero,List.setIfInBounds_toArray,List.set_cons_succ] at F6
     have O6:=Lib.hid (O5.out.kept (grown_cell (World.grownBy.refl w5 (some db)) 0 (.slice I3 n3 c3)) (.inr (own_blk_ne O5.out (F5.out.blk 1 rfl) (by decide))))
     have K7:=Lib.hid (K6.out.grownO (grown_cell (World.grownBy.refl w5 (some db)) 0 (.slice I3 n3 c3)) (fun k e=>by injection e with e; subst e; exact ⟨_,_,F5.out.blk 1 rfl,by decide⟩))
     generalize w5.setCell ⟨db,0,none⟩ _ = w6 at F6 O6 K7 ⊢
     clear F5 O5 K6 k1_0 fz0
     have k0_0 : w6.cell? ⟨xb,0,none⟩ = some (.int .i64 kd):=F6.out.cell 0 0 rfl rfl
     by_cases h4 : kd = 4
     rotate_left
     ·have h4' : (kd == 4) = false:=by rw [beq_eq_false_iff_ne]; exact h4
      rw [if_neg (fun e=>h4 e.2)] at HH2
      have F7:=Lib.hid (F6.out.drop 1)
      simp only [List.drop_succ_cons,List.drop_zero] at F7
      clear h4
      go_wp2_with fail
      refine Handed.intro (l.length - (i + 1)) ?_ (hJ2 _ _ _ (fun Φ hΦ=>hΦ _ _ _ _ _ _ _ _ _ _ _ _ _ _ _ _ _ _ _ _ _ _ _ _ _ _ _ _ _ _ _ _ _ _ _ _ _ _ _ _ _ _ _ _ _ _ _ _ _ _ _ _ _ _ _ _ _ _ _ _ _ _ _ _ _ _ (i + 1) (t3) (I3) (n3) (c3) (D4) (A4) (c4) (M) (mB) (md) ?_))
      ·have:=HI.out.1; omega
      exact ⟨by have:=HI.out.1; omega,by rw [HRest.out]; exact HH2.out,HDn.out,by have:=HI.out.2.1; have:=HCnt.out.2; omega,HCnt.out.1,K7.out,O6.out,HI.out.2.2.2.2.2,F7.out⟩
     subst h4
     rw [if_pos ⟨rfl,rfl⟩] at HH2
     have k0_7 : w6.cell? ⟨xb,7,none⟩ = some (.slice mA mm.length mc):=F6.out.cell 0 7 rfl rfl
     have k1_2 : w6.cell? ⟨db,2,none⟩ = some (.slice mB M.length md):=F6.out.cell 1 2 rfl rfl
     have fz2 : w6.frozen? ⟨db,2,none⟩ = false:=F6.out.frozen 1 2 rfl
     go_wp2_with fail
     have F7:=Live.hs F6 1 2 (.slice mA mm.length mc) rfl
     simp only [List.set_cons_zero,List.setIfInBounds_toArray,List.set_cons_succ] at F7
     have O7:=Lib.hid (O6.out.kept (grown_cell (World.grownBy.refl w6 (some db)) 2 (.slice mA mm.length mc)) (.inr (own_blk_ne O6.out (F6.out.blk 1 rfl) (by decide))))
     have K8:=Lib.hid (K7.out.grownO (grown_cell (World.grownBy.refl w6 (some db)) 2 (.slice mA mm.length mc)) (fun k e=>by injection e with e; subst e; exact ⟨_,_,F6.out.blk 1 rfl,by decide⟩))
     have F8:=Lib.hid (F7.out.drop 1)
     simp only [List.drop_succ_cons,List.drop_zero] at F8
     refine Handed.intro (l.length - (i + 1)) ?_ (hJ2 _ _ _ (fun Φ hΦ=>hΦ _ _ _ _ _ _ _ _ _ _ _ _ _ _ _ _ _ _ _ _ _ _ _ _ _ _ _ _ _ _ _ _ _ _ _ _ _ _ _ _ _ _ _ _ _ _ _ _ _ _ _ _ _ _ _ _ _ _ _ _ _ _ _ _ _ _ (i + 1) (t3) (I3) (n3) (c3) (D4) (A4) (c4) (mm) (mA) (mc) ?_))
     ·have:=HI.out.1; omega
     exact ⟨by have:=HI.out.1; omega,by rw [HRest.out]; exact HH2.out,HDn.out,by have:=HI.out.2.1; have:=HCnt.out.2; omega,HCnt.out.1,K8.out,O7.out,HM0.out,F8.out⟩
    ·have hi1 : ((i : Int) < l.length) = False:=by simp; omega
     have HE2 : Hid (X = ((t2,D,M),0)):=Lib.hid (by
      rw [h2,List.drop_of_length_le (by omega)]
      simp [Ex.allGo])
     have HI:=Lib.hid (And.intro hI (And.intro hD hM))
     have F1:=Lib.hid hF
     have k0_1 : wr2.cell? ⟨db,1,none⟩ = some (.slice rA D.length rc):=hF.cell 0 1 rfl rfl
     have k0_2 : wr2.cell? ⟨db,2,none⟩ = some (.slice mB M.length md):=hF.cell 0 2 rfl rfl
     clear h1 h2 h3 h4 hgd hI hD hM hF hi
     have r0 : wr2.cell? ⟨rb,0,none⟩ = some (.slice none 0 0):=F1.out.cell 1 0 rfl rfl
     have r1 : wr2.cell? ⟨rb,1,none⟩ = some (.slice none 0 0):=F1.out.cell 1 1 rfl rfl
     have r2 : wr2.cell? ⟨rb,2,none⟩ = some (.slice none 0 0):=F1.out.cell 1 2 rfl rfl
     have f0 : wr2.frozen? ⟨rb,0,none⟩ = false:=F1.out.frozen 1 0 rfl
     have f1 : wr2.frozen? ⟨rb,1,none⟩ = false:=F1.out.frozen 1 1 rfl
     have f2 : wr2.frozen? ⟨rb,2,none⟩ = false:=F1.out.frozen 1 2 rfl
     go_wp2_with fail
     have F9 : Hid (Live w (((wr2.setCell ⟨rb,0,none⟩ (.slice I n1 c1)).setCell ⟨rb,1,none⟩ (.slice rA D.length rc)).setCell ⟨rb,2,none⟩ (.slice mB M.length md)) [(db,68,#[.slice I n1 c1,.slice rA D.length rc,.slice mB M.length md]),(rb,68,#[.slice I n1 c1,.slice rA D.length rc,.slice mB M.length md])]):=Lib.hid (((F1.out.set 1 0 _ rfl).set 1 1 _ rfl).set 1 2 _ rfl)
     have hgr : wr2.grownBy (((wr2.setCell ⟨rb,0,none⟩ (.slice I n1 c1)).setCell ⟨rb,1,none⟩ (.slice rA D.length rc)).setCell ⟨rb,2,none⟩ (.slice mB M.length md)) (some rb):=grown_cell (grown_cell (grown_cell (World.grownBy.refl wr2 (some rb)) 0 _) 1 _) 2 _
     have O9:=Lib.hid (HI.out.2.1.kept hgr (.inr (own_blk_ne HI.out.2.1 (F1.out.blk 1 rfl) (by decide))))
     have K9:=Lib.hid (HI.out.1.grownO hgr (fun k e=>by injection e with e; subst e; exact ⟨_,_,F1.out.blk 1 rfl,by decide⟩))
     clear hgr
     generalize ((wr2.setCell ⟨rb,0,none⟩ (.slice I n1 c1)).setCell ⟨rb,1,none⟩ (.slice rA D.length rc)).setCell ⟨rb,2,none⟩ (.slice mB M.length md) = W9 at F9 O9 K9 ⊢
     have s0 : W9.cell? ⟨rb,0,none⟩ = some (.slice I n1 c1):=F9.out.cell 1 0 rfl rfl
     have s1 : W9.cell? ⟨rb,1,none⟩ = some (.slice rA D.length rc):=F9.out.cell 1 1 rfl rfl
     have s2 : W9.cell? ⟨rb,2,none⟩ = some (.slice mB M.length md):=F9.out.cell 1 2 rfl rfl
     (try simp only [Exit.inBlock,Exit.then])
     refine bodyPost_ret (v:=.tuple #[.agg #[.slice I n1 c1,.slice rA D.length rc,.slice mB M.length md],.int .i64 0]) (by simp [results,Tryz.results25,go_sem,s0,s1,s2]) rfl ?_
     exact HPo.out t2 D M I n1 c1 rA rc mB md _ HE2.out F9.out.b K9.out (Reads.of_own O9.out) ((HI.out.2.2.below F9.out.b).more F9.out.b.size)
theorem info_tx : (Tryz.prog.info? 43).map (fun i=>(i.zero,i.size,i.bytes)) = some (some (.agg #[.int .i64 0,.string ⟨#[]⟩,.int .i64 0,.string ⟨#[]⟩,.int .i64 0,.string ⟨#[]⟩,.string ⟨#[]⟩,.slice none 0 0]),8,112):=by kernel_rfl
theorem xcells_one (l : List TxM) : ∀ u ∈ xcells l,u.oneCell' = true:=by
 intro u hu
 rw [List.mem_flatMap] at hu
 obtain ⟨m,_,hu⟩:=hu
 simp only [xcell,List.mem_cons,List.not_mem_nil,or_false] at hu
 rcases hu with rfl | rfl | rfl | rfl | rfl | rfl | rfl | rfl <;> rfl
theorem allGo_mlen2 : ∀ (l : List Ex.Tx) (t : Trie.T) (M : List Pw.Mem),M.length ≤ 1000000 → (Ex.allGo t l M).2.2.length ≤ 1000000
 | [],_,_,h=>h
 | x :: r,t,M,h=>by
  refine allGo_mlen2 r _ _ ?_
  by_cases hc : (Ex.doW t x).2 = 0 ∧ x.kind = 4
  ·rw [if_pos hc]
   obtain ⟨hx,_⟩:=Ex.doW_done hc.1
   rcases (Ex.fineX_spec hx).2.2.2 with ⟨k,_⟩ | ⟨k,_⟩ | ⟨k,_⟩ | ⟨_,_,_,_,_,hm⟩
   ·omega
   ·omega
   ·omega
   ·have:=(Pw.okM_len hm).2; omega
  ·rw [if_neg hc]; exact h
theorem allX_len {t : Trie.T} (hg : Trie.Good t) (l : List Ex.Tx) : (allX t l).1.2.1.length ≤ 8 ∧ (allX t l).1.2.2.length ≤ 1000000 ∧ Trie.count (allX t l).1.1 ≤ Trie.count t + 16 ∧ Trie.Good (allX t l).1.1:=by
 unfold allX
 split
 ·exact ⟨by simp,by simp,by simp [Trie.count],Trie.Good.nil⟩
 ·split
  ·exact ⟨by simp,by simp,by simp [Trie.count],Trie.Good.nil⟩
  ·obtain ⟨a,b,c⟩:=Ex.allGo_good l t [] hg
   exact ⟨by simp only; omega,allGo_mlen2 _ _ _ (by simp),by simp only; omega,a⟩
set_option maxRecDepth 100000 in
set_option maxHeartbeats 4000000 in
theorem law_ExecAll (w : World) (A : Option Addr) (c : Nat) (l : List Ex.Ac) (B : Option Addr) (d : Nat) (set : List Pw.Mem) (C : Option Addr) (e0 : Nat) (its : List Trie.KV) (h : StartAt w A l B set C its) (D : Option Addr) (f : Nat) (L : List TxM) (HL : TxsAt w D L) (hT : Tbl w) :
  Calls Tryz.prog 5 #[.agg #[.slice A l.length c,.slice B set.length d,.slice C its.length e0],.slice D L.length f] w fun e w'=>e = .returned (.bool true) ∧ Below w.heap.size w w':=by
 have HP : Hid (∀ w',Below w.heap.size w w' → (fun e w'=>e = Ending.returned (.bool true) ∧ Below w.heap.size w w') (Ending.returned (.bool true)) w'):=Lib.hid (fun W' a2=>⟨rfl,a2⟩)
 generalize (fun e w'=>e = Ending.returned (.bool true) ∧ Below w.heap.size w w') = P at HP ⊢
 have HTb:=Lib.hid hT
 have HLL:=Lib.hid HL
 have HBn:=Lib.hid (fun W (hW : Below w.heap.size w W) (h20 : its.length ≤ 20)=>law16_begun W A c l B d set C e0 its (h.next hW) h20 (hT.next hW))
 have HBg:=Lib.hid (fun W (hW : Below w.heap.size w W)=>law16_big W A c l B d set C e0 its (h.next hW) D f L (HL.next hW))
 have HGd:=Lib.hid (fun h20 : its.length ≤ 20=>(show Trie.Good (begT (Ex.genW l set).1 its) ∧ Trie.count (begT (Ex.genW l set).1 its) ≤ 100 from ⟨(begT_good its _ (Ex.genW_good l set).1).1,by have:=(begT_good its _ (Ex.genW_good l set).1).2; have:=(Ex.genW_good l set).2; omega⟩))
 generalize begT (Ex.genW l set).1 its = T at *
 generalize (Ex.genW l set).2 = cd at *
 clear h HL hT
 go_enter Tryz.func5,Tryz.ntmps5
 go_upto_region 1 with fail
 have F0:=Live.ha (Lib.hid (Live.start w)) #[.slice A l.length c,.slice B set.length d,.slice C its.length e0] 41
 generalize w.alloc (.cells #[.slice A l.length c,.slice B set.length d,.slice C its.length e0] 41) = W0 at F0 ⊢
 generalize w.heap.size = sb at F0 ⊢
 have k0_0 : W0.cell? ⟨sb,0,none⟩ = some (.slice A l.length c):=F0.out.cell 0 0 rfl rfl; have k0_1 : W0.cell? ⟨sb,1,none⟩ = some (.slice B set.length d):=F0.out.cell 0 1 rfl rfl; have k0_2 : W0.cell? ⟨sb,2,none⟩ = some (.slice C its.length e0):=F0.out.cell 0 2 rfl rfl
 go_wp2_with fail
 refine (HBg.out _ F0.out.b).mono ?_
 rintro e w2 ⟨b,rfl,hb,hbg⟩
 have F2:=Live.hb F0 hb
 clear hb F0 HBg k0_0 k0_1 k0_2
 cases b with
 | true =>
  clear hbg
  go_wp2_with fail
  refine (law16_works _ (HTb.out.next F2.out.b)).mono ?_
  rintro e w3 ⟨rfl,hb⟩
  have F3:=Live.hb F2 hb
  clear hb
  go_wp2_with fail
  exact HP.out _ F3.out.b
 | false =>
 have H20:=Lib.hid (And.intro (hbg rfl).1.2.1 (hbg rfl).1.2.2.2)
 have HOkb:=Lib.hid (hbg rfl).2.2
 clear hbg
 have HBn2:=Lib.hid (HBn.out _ F2.out.b H20.out.1)
 have HG:=Lib.hid (HGd.out H20.out.1)
 clear HBn HGd
 have k0_0 : w2.cell? ⟨sb,0,none⟩ = some (.slice A l.length c):=F2.out.cell 0 0 rfl rfl; have k0_1 : w2.cell? ⟨sb,1,none⟩ = some (.slice B set.length d):=F2.out.cell 0 1 rfl rfl; have k0_2 : w2.cell? ⟨sb,2,none⟩ = some (.slice C its.length e0):=F2.out.cell 0 2 rfl rfl
 go_wp2_with fail
 refine HBn2.out.mono ?_
 rintro e w3 ⟨v3,A3,n3,c3,rfl,hb,hk,hn⟩
 have F3:=Live.hb F2 hb
 have K3:=Lib.hid hk
 clear hb F2 k0_0 k0_1 k0_2 HBn2 hk
 by_cases hc : cd = 0
 rotate_left
 ·obtain rfl:=hn hc
  clear hc hn
  go_wp2_with fail
  refine (law16_works _ (HTb.out.next F3.out.b)).mono ?_
  rintro e w4 ⟨rfl,hb⟩
  have F4:=Live.hb F3 hb
  clear hb
  go_wp2_with fail
  exact HP.out _ F4.out.b
 have K3:=Lib.hid (K3.out hc)
 obtain ⟨_,p3,x3,rfl,_⟩:=id K3.out.1
 clear hc hn
 obtain ⟨i0,hii0,hz0,hz1,hz2⟩:=info_parts info_tx
 have hone:=xcells_one L
 have hl20:=H20.out.2
 have EA : Hid (Below w3.heap.size w3 (w3.alloc (.cells #[] 43)) ∧ (w3.alloc (.cells #[] 43)).ownsRow w3.heap.size 43 8 (.slice (some ⟨w3.heap.size,0,none⟩) 0 0) 0 []):=Lib.hid ⟨(Below.refl _ w3).alloc (Nat.le_refl _) _,World.ownsRow_made w3 #[] 0 (Nat.le_refl _) (by simp only [maxLen]; omega) rfl⟩
 have P3:=Lib.hid (HLL.out.next F3.out.b)
 go_upto_region 7 with (at_builtin; refine wpList_append_any (w3.alloc (.cells #[] 43)) rfl _ _ 46 rfl w3.heap.size 43 i0 _ 8 112 Tryz.underlying46 hii0 hz0 hz1 hz2 rfl (by decide) (.slice (some ⟨w3.heap.size,0,none⟩) 0 0) 0 [] rfl EA.out.2 w3.heap.size D L.length f (xcells L) rfl (P3.out.r.below EA.out.1) hone (by simp only [maxLen]; omega) (by omega) EA.out.1.size ?_; intro v4 w4 own4 hg4 _; rw [Nat.zero_add,List.nil_append] at own4; obtain ⟨A4,c4,rfl,_,_,_⟩:=own_form own4; have B4 : Hid (Below w3.heap.size w3 w4):=Lib.hid (EA.out.1.grown hg4 EA.out.1.size (fun k e=>by have e : some w3.heap.size = some k:=e; injection e with e; omega)); have O4:=Lib.hid own4; clear own4 hg4)
 have F4:=Live.hb F3 B4.out
 have K4:=Lib.hid (And.intro (K3.out.1.next B4.out) (K3.out.2.next B4.out))
 have P4:=Lib.hid (HLL.out.next F4.out.b)
 have Q4 : Hid (TxsAt w4 A4 L):=Lib.hid ⟨Reads.of_own O4.out,P4.out.m,P4.out.t,P4.out.n⟩
 clear hone hii0 hz0 hz1 hz2 EA P3 K3 F3 B4
 have HAl:=Lib.hid (exec_All w4 T _ K4.out.1 (by have:=HG.out.2; omega) (HTb.out.next F4.out.b) L A4 c4 Q4.out)
 have HRl:=Lib.hid (fun W (hW : Below w4.heap.size w4 W)=>ref16_All W T HG.out.1 (by have:=HG.out.2; omega) A3 n3 c3 (K4.out.2.next hW) L D f (P4.out.next hW))
 have HXl:=Lib.hid (allX_len HG.out.1 (L.map (·.1)))
 generalize allX T (L.map (·.1)) = X at *
 obtain ⟨⟨U,RL,ML⟩,cx⟩:=X
 unfold AllEnd at HAl
 unfold RAllEnd at HRl
 simp only at HAl HRl HXl
 go_wp2_with fail
 refine HAl.out.mono ?_
 rintro e w5 ⟨v5,R5,rc5,M5,md5,rfl,hb,hk5,hn5,own5,ownM5⟩
 have F4b:=Lib.hid F4.out.b.size
 have F5:=Live.hb F4 hb
 have B5:=Lib.hid hb
 have K5:=Lib.hid (And.intro (K4.out.1.next hb) (K4.out.2.next hb))
 have S5:=Lib.hid (And.intro hk5 hn5)
 have O5:=Lib.hid (own_below O4.out hb)
 have OR5:=Lib.hid (And.intro own5 ownM5)
 clear hb hk5 hn5 own5 ownM5 F4 K4 O4 HAl Q4
 go_wp2_with fail
 refine (HRl.out _ B5.out).mono ?_
 rintro e w6 ⟨I8,n8,c8,R8,rc8,M8,md8,rfl,hb,hI8,hR8,hM8⟩
 have F6:=Live.hb F5 hb
 have K6:=Lib.hid (And.intro (K5.out.1.next hb) (K5.out.2.next hb))
 have S6:=Lib.hid (And.intro (fun e : cx = 0=>(S5.out.1 e).next hb) (And.intro S5.out.2 hI8))
 have O6:=Lib.hid (own_below O5.out hb)
 have OM6:=Lib.hid (own_below OR5.out.2 hb)
 have OR6:=Lib.hid (And.intro (((Reads.of_own OR5.out.1).below hb).more hb.size) (And.intro hR8 hM8))
 have B5s : Hid (w4.heap.size ≤ w6.heap.size):=Lib.hid (Nat.le_trans B5.out.size hb.size)
 have HW4 : Hid (w.heap.size ≤ w4.heap.size):=Lib.hid F4b.out
 clear hb hI8 hR8 hM8 F5 K5 S5 O5 OR5 HRl B5
 go_upto_region 9 with fail
 have F7:=Live.ha F6 #[.slice I8 n8 c8,.slice R8 RL.length rc8,.slice M8 ML.length md8] 68
 have B7 : Hid (Below w6.heap.size w6 (w6.alloc (.cells #[.slice I8 n8 c8,.slice R8 RL.length rc8,.slice M8 ML.length md8] 68))):=Lib.hid ((Below.refl _ w6).alloc (Nat.le_refl _) _)
 generalize w6.alloc (.cells #[.slice I8 n8 c8,.slice R8 RL.length rc8,.slice M8 ML.length md8] 68) = w7 at F7 B7 ⊢
 generalize w6.heap.size = db at F7 ⊢
 have HW7 : Hid (w4.heap.size ≤ w7.heap.size):=Lib.hid (Nat.le_trans B5s.out B7.out.size)
 have K7:=Lib.hid (And.intro (K6.out.1.next B7.out) (K6.out.2.next B7.out))
 have S7:=Lib.hid (And.intro (fun e : cx = 0=>And.intro ((S6.out.1 e).next B7.out) ((S6.out.2.2 e).next B7.out)) S6.out.2.1)
 have O7:=Lib.hid (own_below O6.out B7.out)
 have OM7:=Lib.hid (own_below OM6.out B7.out)
 have OR7:=Lib.hid (And.intro ((OR6.out.1.below B7.out).more B7.out.size) (And.intro (Reads.of_own OM7.out) (And.intro ((OR6.out.2.1.below B7.out).more B7.out.size) ((OR6.out.2.2.below B7.out).more B7.out.size))))
 clear F6 K6 S6 O6 OM6 OR6 B7
 have hee : ((cx : Int) != cx) = false:=by simp
 have k0_0 : w7.cell? ⟨db,0,none⟩ = some (.slice I8 n8 c8):=F7.out.cell 0 0 rfl rfl; have k0_1 : w7.cell? ⟨db,1,none⟩ = some (.slice R8 RL.length rc8):=F7.out.cell 0 1 rfl rfl; have k0_2 : w7.cell? ⟨db,2,none⟩ = some (.slice M8 ML.length md8):=F7.out.cell 0 2 rfl rfl
 go_cut [76] (fun s wx=>s = .bool false ∧ Below w7.heap.size w7 wx)
 case first =>
  by_cases h2 : cx = 0
  ·subst h2
   obtain ⟨_,p5,x5,rfl,_⟩:=id (S7.out.1 rfl).1
   go_wp2_with fail
   refine (book_SameReceipts R5 R8 rc5 rc8 RL RL w7 OR7.out.1 OR7.out.2.2.1 (by have:=HXl.out.1; omega) (by have:=HXl.out.1; omega)).mono ?_
   rw [decide_eq_true rfl]
   rintro e w8 ⟨rfl,hb⟩
   have F8:=Live.hb F7 hb
   have B8:=Lib.hid hb
   have OM8:=Lib.hid (And.intro ((OR7.out.2.1.below hb).more hb.size) ((OR7.out.2.2.2.below hb).more hb.size))
   clear hb k0_0 k0_1 k0_2
   have k0_2 : w8.cell? ⟨db,2,none⟩ = some (.slice M8 ML.length md8):=F8.out.cell 0 2 rfl rfl
   go_wp2_with fail
   refine (book_SameMembers M5 M8 md5 md8 ML ML w8 OM8.out.1 OM8.out.2 (by have:=HXl.out.2.1; omega) (by have:=HXl.out.2.1; omega)).mono ?_
   rw [decide_eq_true rfl]
   rintro e w9 ⟨rfl,hb⟩
   have B9:=Lib.hid (B8.out.nxt hb)
   clear hb F8 B8 OM8 k0_2
   go_wp2_with fail
   go_meet
   exact ⟨rfl,B9.out⟩
  ·obtain rfl:=S7.out.2 h2
   have h2' : ((cx : Int) != 0) = true:=by simp; exact h2
   go_wp2_with fail
   refine (book_SameReceipts R5 R8 rc5 rc8 RL RL w7 OR7.out.1 OR7.out.2.2.1 (by have:=HXl.out.1; omega) (by have:=HXl.out.1; omega)).mono ?_
   rw [decide_eq_true rfl]
   rintro e w8 ⟨rfl,hb⟩
   have F8:=Live.hb F7 hb
   have B8:=Lib.hid hb
   have OM8:=Lib.hid (And.intro ((OR7.out.2.1.below hb).more hb.size) ((OR7.out.2.2.2.below hb).more hb.size))
   clear hb k0_0 k0_1 k0_2
   have k0_2 : w8.cell? ⟨db,2,none⟩ = some (.slice M8 ML.length md8):=F8.out.cell 0 2 rfl rfl
   go_wp2_with fail
   refine (book_SameMembers M5 M8 md5 md8 ML ML w8 OM8.out.1 OM8.out.2 (by have:=HXl.out.2.1; omega) (by have:=HXl.out.2.1; omega)).mono ?_
   rw [decide_eq_true rfl]
   rintro e w9 ⟨rfl,hb⟩
   have B9:=Lib.hid (B8.out.nxt hb)
   clear hb F8 B8 OM8 k0_2
   go_wp2_with fail
   go_meet
   exact ⟨rfl,B9.out⟩
 case rest =>
 obtain ⟨h76,hb⟩:=hcut
 subst h76
 have F8:=Live.hb F7 hb
 have K8:=Lib.hid (And.intro (K7.out.1.next hb) (K7.out.2.next hb))
 have S8:=Lib.hid (And.intro (fun e : cx = 0=>And.intro ((S7.out.1 e).1.next hb) ((S7.out.1 e).2.next hb)) S7.out.2)
 have O8:=Lib.hid (own_below O7.out hb)
 have OM8:=Lib.hid (own_below OM7.out hb)
 have HS8:=Lib.hid hb.size
 clear hb F7 K7 S7 O7 OM7 OR7 k0_0 k0_1 k0_2 hee
 go_wp2_with fail
 refine (book_SpoilMembers2 _ w4.heap.size M5 ML.length md5 (mcells ML) OM8.out (Nat.le_trans HW7.out HS8.out) HXl.out.2.1).mono ?_
 rintro e w11 ⟨rfl,hg⟩
 have hblk:=fun k (e : (Value.slice M5 ML.length md5).ownBlock = some k)=>own_blk OM8.out k e
 have F11:=Lib.hid (F8.out.apart hg (fun k e=>by
  obtain ⟨cs,hh⟩:=hblk k e
  obtain ⟨A2,c2,e2,_,_,hge⟩:=own_form OM8.out
  injection e2 with e2 _ _
  subst e2
  refine ⟨?_,fun x hx => ?_⟩
  ·cases M5 with
   | none=>cases e
   | some a=>injection e with e; subst e; exact Nat.le_trans HW4.out (hge a rfl)
  ·intro e3
   simp only [List.mem_cons,List.not_mem_nil,or_false] at hx
   rcases hx with rfl | rfl
   ·exact own_blk_ne OM8.out (F8.out.blk 0 rfl) (by decide) (by rw [e,← e3])
   ·exact own_blk_ne OM8.out (F8.out.blk 1 rfl) (by decide) (by rw [e,← e3])))
 have O11:=Lib.hid (O8.out.kept hg (own_types_ne O8.out OM8.out (by decide)))
 have K11:=Lib.hid (And.intro (K8.out.1.kept hg (fun k e=>by obtain ⟨cs,hh⟩:=hblk k e; exact ⟨_,_,hh,by decide,by decide⟩)) (K8.out.2.grownO hg (fun k e=>by obtain ⟨cs,hh⟩:=hblk k e; exact ⟨_,_,hh,by decide⟩)))
 have S11:=Lib.hid (And.intro (fun e : cx = 0=>And.intro ((S8.out.1 e).1.kept hg (fun k e=>by obtain ⟨cs,hh⟩:=hblk k e; exact ⟨_,_,hh,by decide,by decide⟩)) ((S8.out.1 e).2.grownO hg (fun k e=>by obtain ⟨cs,hh⟩:=hblk k e; exact ⟨_,_,hh,by decide⟩))) S8.out.2)
 have P11:=Lib.hid (HLL.out.next F11.out.b)
 have Q11 : Hid (TxsAt w11 A4 L):=Lib.hid ⟨Reads.of_own O11.out,P11.out.m,P11.out.t,P11.out.n⟩
 clear hg hblk F8 K8 S8 O8 OM8 O11
 go_wp2_with fail
 refine wp_loop_ghost_k (fun k a wr => ∀ Φ : Act → Prop,(∀ (s0 s2 s3 s4 s7 s10 s11 s12 s14 s16 s17 s18 s19 s20 s21 s22 s23 s24 s25 s26 s27 s28 s29 s30 s31 s32 s33 s34 s35 s36 s37 s38 s39 s40 s41 s42 s43 s44 s45 s46 s47 s48 s49 s50 s51 s52 s53 s54 s55 s56 s57 s58 s59 s60 s61 s62 s63 s64 s65 s66 s67 s68 s69 s70 s71 s72 s73 s74 s75 s76 s77 s78 s79 s80 s81 s82 s83 s84 s85 s86 s87 s88 s89 s90 s91 s92 s93 s94 s95 s96 s97 s98 s99 s100 s101 s102 s103 s104 s105 s106 s107 s108 s109 s110 s111 s112 : Value) (i : Nat),(i + k = L.length ∧ Below w11.heap.size w11 wr) → Φ { tmps:=#[s0,.slice D L.length f,s2,s3,s4,.pointer (some ⟨p3,0,none⟩),.slice A3 n3 c3,s7,.slice A4 L.length c4,v5,s10,s11,s12,.pointer (some ⟨db,0,none⟩),s14,.int .i64 (i : Int),s16,s17,s18,s19,s20,s21,s22,s23,s24,s25,s26,s27,s28,s29,s30,s31,s32,s33,s34,s35,s36,s37,s38,s39,s40,s41,s42,s43,s44,s45,s46,s47,s48,s49,s50,s51,s52,s53,s54,s55,s56,s57,s58,s59,s60,s61,s62,s63,s64,s65,s66,s67,s68,s69,s70,s71,s72,s73,s74,s75,s76,s77,s78,s79,s80,s81,s82,s83,s84,s85,s86,s87,s88,s89,s90,s91,s92,s93,s94,s95,s96,s97,s98,s99,s100,s101,s102,s103,s104,s105,s106,s107,s108,s109,s110,s111,s112],defers := [] }) → Φ a) (L.length) ?_ ?_
 ·refine fun Φ hΦ=>hΦ _ _ _ _ _ _ _ _ _ _ _ _ _ _ _ _ _ _ _ _ _ _ _ _ _ _ _ _ _ _ _ _ _ _ _ _ _ _ _ _ _ _ _ _ _ _ _ _ _ _ _ _ _ _ _ _ _ _ _ _ _ _ _ _ _ _ _ _ _ _ _ _ _ _ _ _ _ _ _ _ _ _ _ _ _ _ _ _ _ _ _ _ _ _ _ _ _ _ _ _ _ _ _ _ _ _ (0) ?_
  exact ⟨by omega,Below.refl _ _⟩
 ·intro k1 a1 wr1 hI1 J1 K1 hJ1 hK1
  refine hI1 (fun a=>Code.wp _ _ _ a _) ?_
  clear hI1 a1
  intro s0 s1 s2 s3 s4 s5 s6 s7 s8 s9 s10 s11 s12 s13 s14 s15 s16 s17 s18 s19 s20 s21 s22 s23 s24 s25 s26 s27 s28 s29 s30 s31 s32 s33 s34 s35 s36 s37 s38 s39 s40 s41 s42 s43 s44 s45 s46 s47 s48 s49 s50 s51 s52 s53 s54 s55 s56 s57 s58 s59 s60 s61 s62 s63 s64 s65 s66 s67 s68 s69 s70 s71 s72 s73 s74 s75 s76 s77 s78 s79 s80 s81 s82 s83 s84 s85 s86 s87 s88 s89 s90 s91 s92 s93 s94 s95 s96 s97 s98 s99 s100 s101 s102 s103 s104 s105 i hrel
  show Code.wp _ _ _ _ _
  obtain ⟨h1,hb⟩:=hrel
  by_cases hi : i < L.length
  ·have HI:=Lib.hid (And.intro h1 hb)
   obtain ⟨ad,off,hA4,hbl,hcell⟩:=tx_cells Q11.out.r hi
   obtain ⟨ad2,off2,hD2,hbl2,hcell2⟩:=tx_cells P11.out.r hi
   obtain rfl:=hA4
   obtain rfl:=hD2
   obtain ⟨r0,r1,r2,r3,r4,r5,r6,r7⟩:=hcell _ hb
   obtain ⟨z0,z1,z2,z3,z4,z5,z6,z7⟩:=hcell2 _ hb
   have hi1 : (i : Int) < L.length:=by omega
   have hi0 : (0 : Int) ≤ i:=by omega
   have hi20 : (i : Int) < 20:=by have:=H20.out.2; omega
   have hm:=Q11.out.m _ (List.getElem_mem hi)
   have HCa:=Lib.hid (fun W (hW : Below wr1.heap.size wr1 W)=>hcell W (hb.nxt hW))
   have HCb:=Lib.hid (fun W (hW : Below wr1.heap.size wr1 W)=>hcell2 W (hb.nxt hW))
   have HMm:=Lib.hid (fun W (hW : Below wr1.heap.size wr1 W)=>(hm.below (hb.nxt hW)).more (hb.nxt hW).size)
   have HOb:=Lib.hid (HOkb.out _ (List.getElem_mem hi)).2.2.2.2
   clear h1 hb hcell hcell2 hbl hbl2 hm
   generalize L[i] = p at *
   obtain ⟨⟨kd,fr,sq,dt,am,ky,vl,mm⟩,mA,mc⟩:=p
   simp only at r0 r1 r2 r3 r4 r5 r6 r7 z0 z1 z2 z3 z4 z5 z6 z7 HCa HCb HMm HOb
   have hmm:=HOb.out
   have HSt:=Lib.hid (fun W (hW : Below wr1.heap.size wr1 W)=>book_SameTx W kd fr sq dt am ky vl mm mA mA mc mc (HMm.out W hW) (HMm.out W hW) (by omega))
   have F:=Lib.hid (Live.start wr1)
   clear hmm
   go_upto_region 15 with fail
   go_region_held3 (fun w'=>w'.cell? ⟨ad,off + i * 8,none⟩ = some (.int .i64 kd) ∧ w'.cell? ⟨ad,off + i * 8 + 1,none⟩ = some (.string ⟨fr.toArray⟩) ∧ w'.cell? ⟨ad,off + i * 8 + 2,none⟩ = some (.int .i64 sq) ∧ w'.cell? ⟨ad,off + i * 8 + 3,none⟩ = some (.string ⟨dt.toArray⟩) ∧ w'.cell? ⟨ad,off + i * 8 + 4,none⟩ = some (.int .i64 am) ∧ w'.cell? ⟨ad,off + i * 8 + 5,none⟩ = some (.string ⟨ky.toArray⟩) ∧ w'.cell? ⟨ad,off + i * 8 + 6,none⟩ = some (.string ⟨vl.toArray⟩) ∧ w'.cell? ⟨ad,off + i * 8 + 7,none⟩ = some (.slice mA mm.length mc) ∧ w'.cell? ⟨ad2,off2 + i * 8,none⟩ = some (.int .i64 kd) ∧ w'.cell? ⟨ad2,off2 + i * 8 + 1,none⟩ = some (.string ⟨fr.toArray⟩) ∧ w'.cell? ⟨ad2,off2 + i * 8 + 2,none⟩ = some (.int .i64 sq) ∧ w'.cell? ⟨ad2,off2 + i * 8 + 3,none⟩ = some (.string ⟨dt.toArray⟩) ∧ w'.cell? ⟨ad2,off2 + i * 8 + 4,none⟩ = some (.int .i64 am) ∧ w'.cell? ⟨ad2,off2 + i * 8 + 5,none⟩ = some (.string ⟨ky.toArray⟩) ∧ w'.cell? ⟨ad2,off2 + i * 8 + 6,none⟩ = some (.string ⟨vl.toArray⟩) ∧ w'.cell? ⟨ad2,off2 + i * 8 + 7,none⟩ = some (.slice mA mm.length mc)) (first | go_keep | (refine ⟨?_, ?_, ?_, ?_, ?_, ?_, ?_, ?_, ?_, ?_, ?_, ?_, ?_, ?_, ?_, ?_⟩ <;> assumption)) ((go_at_call 29; ((with_reducible refine (HSt.out _ ?_).mono ?_); (first | exact F.out.b | exact F.out.b.drew); (rintro e w13 ⟨rfl,hb⟩; (first | have F:=Live.hb F hb | have F:=Live.hbd F hb); clear hb; obtain ⟨r0,r1,r2,r3,r4,r5,r6,r7⟩:=HCa.out _ F.out.b; obtain ⟨z0,z1,z2,z3,z4,z5,z6,z7⟩:=HCb.out _ F.out.b))))
   all_goals go_wp2_with fail
   all_goals
    refine Handed.intro (L.length - (i + 1)) ?_ (hJ1 _ _ _ (fun Φ hΦ=>hΦ _ _ _ _ _ _ _ _ _ _ _ _ _ _ _ _ _ _ _ _ _ _ _ _ _ _ _ _ _ _ _ _ _ _ _ _ _ _ _ _ _ _ _ _ _ _ _ _ _ _ _ _ _ _ _ _ _ _ _ _ _ _ _ _ _ _ _ _ _ _ _ _ _ _ _ _ _ _ _ _ _ _ _ _ _ _ _ _ _ _ _ _ _ _ _ _ _ _ _ _ _ _ _ _ _ _ (i + 1) ?_))
    ·have:=HI.out.1; omega
    exact ⟨by have:=HI.out.1; omega,HI.out.2.nxt F.out.b⟩
  ·have hi1 : ((i : Int) < L.length) = False:=by simp; omega
   have F12:=Live.hb F11 hb
   have K12:=Lib.hid (And.intro (K11.out.1.next hb) (K11.out.2.next hb))
   have S12:=Lib.hid (And.intro (fun e : cx = 0=>And.intro ((S11.out.1 e).1.next hb) ((S11.out.1 e).2.next hb)) S11.out.2)
   clear h1 hb hi K11 S11 P11 Q11
   have HWk:=Lib.hid (fun W (hW : Below wr1.heap.size wr1 W)=>law16_works W (HTb.out.next (F12.out.b.nxt hW)))
   obtain ⟨jq,hjq⟩ : ∃ jq,Trie.itemsW T = jq:=⟨_,rfl⟩
   have HIt : Hid (∀ W,Below wr1.heap.size wr1 W → Calls Tryz.prog 19 #[.pointer (some ⟨p3,0,none⟩)] W (ItemsEnd W jq)):=Lib.hid (fun W hW=>(by have h:=trie_Items W T _ (K12.out.1.next hW) (by have:=HG.out.2; omega); rwa [hjq] at h))
   have HRt : Hid (∀ W,Below wr1.heap.size wr1 W → Reads W W.heap.size 2 A3 n3 (icells jq)):=Lib.hid (fun W hW=>hjq ▸ (K12.out.2.next hW).hr)
   have HBt : Hid (jq.length ≤ 1048576 ∧ n3 ≤ 1048576):=Lib.hid (by have h1:=K12.out.2.hn; rw [items_len] at h1; have h2:=HG.out.2; rw [← hjq,items_len]; omega)
   have F:=Lib.hid (Live.start wr1)
   have FX:=F12
   have k0_0 : wr1.cell? ⟨db,0,none⟩ = some (.slice I8 n8 c8):=F12.out.cell 0 0 rfl rfl
   clear hjq K12
   by_cases h2 : cx = 0
   ·subst h2
    have S13:=Lib.hid (S12.out.1 rfl)
    obtain ⟨_,p5,x5,rfl,_⟩:=id S13.out.1
    obtain ⟨iq,hiq⟩ : ∃ iq,Trie.itemsW U = iq:=⟨_,rfl⟩
    have HIu : Hid (∀ W,Below wr1.heap.size wr1 W → Calls Tryz.prog 19 #[.pointer (some ⟨p5,0,none⟩)] W (ItemsEnd W iq)):=Lib.hid (fun W hW=>(by have h:=trie_Items W U _ (S13.out.1.next hW) (by have:=HG.out.2; have:=HXl.out.2.2.1; omega); rwa [hiq] at h))
    have HRu : Hid (∀ W,Below wr1.heap.size wr1 W → Reads W W.heap.size 2 I8 n8 (icells iq)):=Lib.hid (fun W hW=>hiq ▸ (S13.out.2.next hW).hr)
    have HBu : Hid (iq.length ≤ 1048576 ∧ n8 ≤ 1048576):=Lib.hid (by have h1:=S13.out.2.hn; rw [items_len] at h1; have h2:=HG.out.2; have h3:=HXl.out.2.2.1; rw [← hiq,items_len]; omega)
    clear hiq S12 S13
    go_upto_region 17 with fail
    go_region_held3 (fun w'=>w'.cell? ⟨db,0,none⟩ = some (.slice I8 n8 c8)) (first | go_keep | assumption) (first | ((go_at_call 19; ((with_reducible refine (HIu.out _ ?_).mono ?_); (first | exact F.out.b | exact F.out.b.drew); (rintro e w14 ⟨A14,n14,c14,rfl,hn14,own,hb⟩; subst hn14; (first | have F:=Live.hb F hb | have F:=Live.hbd F hb); (first | have FX:=Live.hb FX hb | have FX:=Live.hbd FX hb); have HSu : Hid (∀ W,Below w14.heap.size w14 W → Calls Tryz.prog 11 #[.slice A14 iq.length c14,.slice I8 n8 c8] W (Ret W (.bool true))):=Lib.hid (fun W hW=>(by have h:=book_SameItems A14 I8 iq.length n8 c14 c8 iq iq W (((Reads.of_own own).below hW).more hW.size) (HRu.out W (F.out.b.nxt hW)) HBu.out.1 HBu.out.2; rwa [decide_eq_true rfl] at h)); have FA:=Lib.hid (Live.start w14); clear own hb; have k0_0 : w14.cell? ⟨db,0,none⟩ = some (.slice I8 n8 c8):=FX.out.cell 0 0 rfl rfl)))) | ((go_at_call 11; ((with_reducible refine (HSu.out _ ?_).mono ?_); (first | exact FA.out.b | exact FA.out.b.drew); (rintro e w15 ⟨rfl,hb⟩; (first | have F:=Live.hb F hb | have F:=Live.hbd F hb); (first | have FX:=Live.hb FX hb | have FX:=Live.hbd FX hb); clear hb; have k0_0 : w15.cell? ⟨db,0,none⟩ = some (.slice I8 n8 c8):=FX.out.cell 0 0 rfl rfl)))) | ((go_at_call 19; ((with_reducible refine (HIt.out _ ?_).mono ?_); (first | exact F.out.b | exact F.out.b.drew); (rintro e w16 ⟨A16,n16,c16,rfl,hn16,own,hb⟩; subst hn16; (first | have F:=Live.hb F hb | have F:=Live.hbd F hb); (first | have FX:=Live.hb FX hb | have FX:=Live.hbd FX hb); have HSt : Hid (∀ W,Below w16.heap.size w16 W → Calls Tryz.prog 11 #[.slice A16 jq.length c16,.slice A3 n3 c3] W (Ret W (.bool true))):=Lib.hid (fun W hW=>(by have h:=book_SameItems A16 A3 jq.length n3 c16 c3 jq jq W (((Reads.of_own own).below hW).more hW.size) (HRt.out W (F.out.b.nxt hW)) HBt.out.1 HBt.out.2; rwa [decide_eq_true rfl] at h)); have FB:=Lib.hid (Live.start w16); clear own hb; have k0_0 : w16.cell? ⟨db,0,none⟩ = some (.slice I8 n8 c8):=FX.out.cell 0 0 rfl rfl)))) | ((go_at_call 11; ((with_reducible refine (HSt.out _ ?_).mono ?_); (first | exact FB.out.b | exact FB.out.b.drew); (rintro e w17 ⟨rfl,hb⟩; (first | have F:=Live.hb F hb | have F:=Live.hbd F hb); (first | have FX:=Live.hb FX hb | have FX:=Live.hbd FX hb); clear hb; have k0_0 : w17.cell? ⟨db,0,none⟩ = some (.slice I8 n8 c8):=FX.out.cell 0 0 rfl rfl)))) | ((go_at_call 15; ((with_reducible refine (HWk.out _ ?_).mono ?_); (first | exact F.out.b | exact F.out.b.drew); (rintro e w18 ⟨rfl,hb⟩; (first | have F:=Live.hb F hb | have F:=Live.hbd F hb); (first | have FX:=Live.hb FX hb | have FX:=Live.hbd FX hb); clear hb; have k0_0 : w18.cell? ⟨db,0,none⟩ = some (.slice I8 n8 c8):=FX.out.cell 0 0 rfl rfl)))))
    all_goals go_wp2_with fail
    all_goals exact HP.out _ FX.out.b
   ·obtain rfl:=S12.out.2 h2
    clear S12 h2
    go_upto_region 17 with fail
    refine wp_region_held_drew (S:=fun _=>True) (by kernel_rfl) trivial (fun hHeld => ?_)
    refine wpAnyH_take (i:=0) (oi:=⟨some 95,_,_,_,_,_⟩) (v := ?_) rfl (by kernel_rfl) (by kernel_rfl) (by kernel_rfl) (fun _ _ _ h=>h) (Or.inl ⟨by rfl, ?_⟩) (by assumption) ?_
    rotate_left
    ·intro w hSw
     try dsimp only at hSw
     go_simp
     first | done | with_reducible rfl
    try simp only [Act.put,List.setIfInBounds_toArray,List.set_cons_zero,List.set_cons_succ]
    refine wpAnyH_take (i:=1) (oi:=⟨some 96,_,_,_,_,_⟩) (v := ?_) rfl (by kernel_rfl) (by kernel_rfl) (by kernel_rfl) (fun _ _ _ h=>h) (Or.inl ⟨by rfl, ?_⟩) (by assumption) ?_
    rotate_left
    ·intro w hSw
     try dsimp only at hSw
     go_simp
     first | done | with_reducible rfl
    try simp only [Act.put,List.setIfInBounds_toArray,List.set_cons_zero,List.set_cons_succ]
    refine wpAnyH_take (i:=2) (oi:=⟨some 97,_,_,_,_,_⟩) (v := ?_) rfl (by kernel_rfl) (by kernel_rfl) (by kernel_rfl) (fun _ _ _ h=>h) (Or.inl ⟨by rfl, ?_⟩) (by assumption) ?_
    rotate_left
    ·intro w hSw
     try dsimp only at hSw
     go_simp
     first | done | with_reducible rfl
    try simp only [Act.put,List.setIfInBounds_toArray,List.set_cons_zero,List.set_cons_succ]
    refine wpAnyH_take (i:=3) (oi:=⟨some 98,_,_,_,_,_⟩) (v:=undef) rfl (by kernel_rfl) (by kernel_rfl) (by kernel_rfl) (fun _ _ _ h=>h) (Or.inr ⟨by rfl,rfl⟩) (by assumption) ?_
    try simp only [Act.put,List.setIfInBounds_toArray,List.set_cons_zero,List.set_cons_succ]
    refine wpAnyH_take (i:=4) (oi:=⟨some 99,_,_,_,_,_⟩) (v:=undef) rfl (by kernel_rfl) (by kernel_rfl) (by kernel_rfl) (fun _ _ _ h=>h) (Or.inr ⟨by rfl,rfl⟩) (by assumption) ?_
    try simp only [Act.put,List.setIfInBounds_toArray,List.set_cons_zero,List.set_cons_succ]
    refine wpAnyH_take (i:=5) (oi:=⟨some 100,_,_,_,_,_⟩) (v:=undef) rfl (by kernel_rfl) (by kernel_rfl) (by kernel_rfl) (fun _ _ _ h=>h) (Or.inr ⟨by rfl,rfl⟩) (by assumption) ?_
    try simp only [Act.put,List.setIfInBounds_toArray,List.set_cons_zero,List.set_cons_succ]
    refine wpAnyH_take (i:=6) (oi:=⟨some 101,_,_,_,_,_⟩) (v:=undef) rfl (by kernel_rfl) (by kernel_rfl) (by kernel_rfl) (fun _ _ _ h=>h) (Or.inr ⟨by rfl,rfl⟩) (by assumption) ?_
    try simp only [Act.put,List.setIfInBounds_toArray,List.set_cons_zero,List.set_cons_succ]
    refine wpAnyH_take (i:=7) (oi:=⟨some 102,_,_,_,_,_⟩) (v:=undef) rfl (by kernel_rfl) (by kernel_rfl) (by kernel_rfl) (fun _ _ _ h=>h) (Or.inr ⟨by rfl,rfl⟩) (by assumption) ?_
    try simp only [Act.put,List.setIfInBounds_toArray,List.set_cons_zero,List.set_cons_succ]
    refine wpAnyH_take (i:=8) (oi:=⟨some 103,_,_,_,_,_⟩) (v := ?_) rfl (by kernel_rfl) (by kernel_rfl) (by kernel_rfl) (fun _ _ _ h=>h) (Or.inl ⟨by rfl, ?_⟩) (by assumption) ?_
    rotate_left
    ·intro w hSw
     try dsimp only at hSw
     go_simp
     first | done | with_reducible rfl
    try simp only [Act.put,List.setIfInBounds_toArray,List.set_cons_zero,List.set_cons_succ]
    refine wpAnyH_take (i:=9) (oi:=⟨some 104,_,_,_,_,_⟩) (v := ?_) rfl (by kernel_rfl) (by kernel_rfl) (by kernel_rfl) (fun _ _ _ h=>h) (Or.inl ⟨by rfl, ?_⟩) (by assumption) ?_
    rotate_left
    ·intro w hSw
     try dsimp only at hSw
     go_simp
     first | done | with_reducible rfl
    try simp only [Act.put,List.setIfInBounds_toArray,List.set_cons_zero,List.set_cons_succ]
    refine wpAnyH_take (i:=10) (oi:=⟨some 105,_,_,_,_,_⟩) (v := ?_) rfl (by kernel_rfl) (by kernel_rfl) (by kernel_rfl) (fun _ _ _ h=>h) (Or.inl ⟨by rfl, ?_⟩) (by assumption) ?_
    rotate_left
    ·intro w hSw
     try dsimp only at hSw
     go_simp
     first | done | with_reducible rfl
    try simp only [Act.put,List.setIfInBounds_toArray,List.set_cons_zero,List.set_cons_succ]
    refine wpAnyH_take (i:=12) (oi:=⟨some 107,_,_,_,_,_⟩) (v := ?_) rfl (by kernel_rfl) (by kernel_rfl) (by kernel_rfl) (fun _ _ _ h=>h) (Or.inl ⟨by rfl, ?_⟩) (by assumption) ?_
    rotate_left
    ·intro w hSw
     try dsimp only at hSw
     go_simp
     first | done | with_reducible rfl
    try simp only [Act.put,List.setIfInBounds_toArray,List.set_cons_zero,List.set_cons_succ]
    refine wpAnyH_ready (rs := [11]) (by kernel_rfl) (by simp) ?_
    refine AllReadyH.cons rfl (fun K hK => ?_) AllReadyH.nil
    go_simp
    refine (HIt.out _ (by first | exact F.out.b | exact F.out.b.drew)).mono ?_
    rintro e w16 ⟨A16,n16,c16,rfl,hn16,own,hb⟩
    subst hn16
    have R16:=Lib.hid (Reads.of_own own)
    have hb16 : Below wr1.heap.size wr1 w16:=(by first | exact hb | exact hb.start)
    have HSt : Hid (∀ W,Below w16.heap.size w16 W → Calls Tryz.prog 11 #[.slice A16 jq.length c16,.slice A3 n3 c3] W (Ret W (.bool true))):=Lib.hid (fun W hW=>(by have h:=book_SameItems A16 A3 jq.length n3 c16 c3 jq jq W ((R16.out.below hW).more hW.size) (HRt.out W (hb16.nxt hW)) HBt.out.1 HBt.out.2; rwa [decide_eq_true rfl] at h))
    have FB:=Lib.hid (Live.start w16)
    clear own hb16
    have F:=(by first | exact Live.hb F hb | exact Live.hbd F hb)
    have FX:=(by first | exact Live.hb FX hb | exact Live.hbd FX hb)
    clear hb
    go_simp
    refine hK.out _ _ trivial (fun hHeld => ?_)
    clear hK K
    try simp only [Act.put,List.setIfInBounds_toArray,List.set_cons_zero,List.set_cons_succ]
    refine wpAnyH_ready (rs := [13]) (by kernel_rfl) (by simp) ?_
    refine AllReadyH.cons rfl (fun K hK => ?_) AllReadyH.nil
    go_simp
    refine (HSt.out _ (by first | exact FB.out.b | exact FB.out.b.drew)).mono ?_
    rintro e w17 ⟨rfl,hb⟩
    have F:=(by first | exact Live.hb F hb | exact Live.hbd F hb)
    have FX:=(by first | exact Live.hb FX hb | exact Live.hbd FX hb)
    clear hb
    go_simp
    refine hK.out _ _ trivial (fun hHeld => ?_)
    clear hK K
    try simp only [Act.put,List.setIfInBounds_toArray,List.set_cons_zero,List.set_cons_succ]
    refine wpAnyH_take (i:=14) (oi:=⟨some 109,_,_,_,_,_⟩) (v := ?_) rfl (by kernel_rfl) (by kernel_rfl) (by kernel_rfl) (fun _ _ _ h=>h) (Or.inl ⟨by rfl, ?_⟩) (by assumption) ?_
    rotate_left
    ·intro w hSw
     try dsimp only at hSw
     go_simp
     first | done | with_reducible rfl
    try simp only [Act.put,List.setIfInBounds_toArray,List.set_cons_zero,List.set_cons_succ]
    refine wpAnyH_take (i:=15) (oi:=⟨some 110,_,_,_,_,_⟩) (v := ?_) rfl (by kernel_rfl) (by kernel_rfl) (by kernel_rfl) (fun _ _ _ h=>h) (Or.inl ⟨by rfl, ?_⟩) (by assumption) ?_
    rotate_left
    ·intro w hSw
     try dsimp only at hSw
     go_simp
     first | done | with_reducible rfl
    try simp only [Act.put,List.setIfInBounds_toArray,List.set_cons_zero,List.set_cons_succ]
    refine wpAnyH_ready (rs := [16]) (by kernel_rfl) (by simp) ?_
    refine AllReadyH.cons rfl (fun K hK => ?_) AllReadyH.nil
    go_simp
    refine (HWk.out _ (by first | exact F.out.b | exact F.out.b.drew)).mono ?_
    rintro e w18 ⟨rfl,hb⟩
    have F:=(by first | exact Live.hb F hb | exact Live.hbd F hb)
    have FX:=(by first | exact Live.hb FX hb | exact Live.hbd FX hb)
    clear hb
    go_simp
    refine hK.out _ _ trivial (fun hHeld => ?_)
    clear hK K
    try simp only [Act.put,List.setIfInBounds_toArray,List.set_cons_zero,List.set_cons_succ]
    refine wpAnyH_take (i:=17) (oi:=⟨some 112,_,_,_,_,_⟩) (v := ?_) rfl (by kernel_rfl) (by kernel_rfl) (by kernel_rfl) (fun _ _ _ h=>h) (Or.inl ⟨by rfl, ?_⟩) (by assumption) ?_
    rotate_left
    ·intro w hSw
     try dsimp only at hSw
     go_simp
     first | done | with_reducible rfl
    try simp only [Act.put,List.setIfInBounds_toArray,List.set_cons_zero,List.set_cons_succ]
    refine wpAnyH_take (i:=18) (oi:=⟨some 4,_,_,_,_,_⟩) (v := ?_) rfl (by kernel_rfl) (by kernel_rfl) (by kernel_rfl) (fun _ _ _ h=>h) (Or.inl ⟨by rfl, ?_⟩) (by assumption) ?_
    rotate_left
    ·intro w hSw
     try dsimp only at hSw
     go_simp
     first | done | with_reducible rfl
    try simp only [Act.put,List.setIfInBounds_toArray,List.set_cons_zero,List.set_cons_succ]
    refine wpAnyH_done (by kernel_rfl) ?_ _
    go_wp2_with fail
    exact HP.out _ FX.out.b
end Go.Proofs.YtomnlhbioijfhaaGreatDoor
