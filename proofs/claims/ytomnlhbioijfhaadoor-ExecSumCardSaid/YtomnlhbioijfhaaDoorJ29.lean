import Derived.Test.YtomnlhbioijfhaaDoorJ27
import Derived.Test.YtomnlhbioijfhaaDoorJ06
import Derived.Test.YtomnlhbioijfhaaDoorJ19
set_option linter.unusedSimpArgs false
set_option linter.unusedVariables false
namespace Go.Proofs.YtomnlhbioijfhaaDoor
open Go.RowKit Go.Instr
attribute [local go_sem] ba_get ByteArray.mk_append_mk
attribute [local go_sem ↓] Go.wp_at_zero Go.wp_at_succ
theorem sumI_take (l : List Trie.KV) (i : Nat) (hi : i < l.length) : Ex.sumI (l.take (i + 1)) = Ex.sumI (l.take i) + Ex.amtI l[i]:=by
 unfold Ex.sumI
 rw [List.take_succ_eq_append_getElem hi,List.map_append,List.sum_append]
 simp
theorem amtI_yes {k v : List UInt8} {p : Nat × Nat} (hk : Ex.isAK k = true) (hp : Ex.parseA v = some p) : Ex.amtI (k,v) = p.1:=by
 unfold Ex.amtI
 rw [if_pos hk]
 simp only [hp]
 rfl
set_option maxRecDepth 100000 in
set_option maxHeartbeats 2000000 in
theorem law16_sum (w : World) (t : Trie.T) (v : Value) (h : TrieP w t v) (hc : Trie.count t ≤ 1000) (hw : Ex.WfS t) :
  Calls Tryd.prog 17 #[v] w (Ret w (.int .i64 (Ex.sumI (Trie.itemsW t) : Int))):=by
 have HP : Hid (∀ (s : Nat) w',Ex.sumI (Trie.itemsW t) = s → Below w.heap.size w w' → Ret w (.int .i64 (Ex.sumI (Trie.itemsW t) : Int)) (.returned (.int .i64 (s : Int))) w'):=Lib.hid (fun s w' e h=>by rw [e]; exact ⟨rfl,h⟩)
 generalize Ret w (.int .i64 (Ex.sumI (Trie.itemsW t) : Int)) = P at HP ⊢
 have HIt:=Lib.hid (trie_Items w t v h (by omega))
 have HTr:=Lib.hid h
 have hil : (Trie.itemsW t).length ≤ 1000:=by rw [Trie.itemsW,List.length_map,Trie.length_items]; exact hc
 have HIl:=Lib.hid hil
 have HMem : Hid (∀ x ∈ Trie.itemsW t,x.1.length ≤ 8 ∧ (Ex.isAK x.1 = true → ∃ p,Ex.parseA x.2 = some p ∧ Ex.nameW (x.1.drop 2) = true ∧ Ex.acc t (x.1.drop 2) = some p)):=Lib.hid (fun x hx=>by
  obtain ⟨k,v⟩:=x
  have hcd:=Trie.item_code h.1 hx
  have hkw : Trie.keyedW k = true:=by
   unfold Trie.putCode at hcd
   split at hcd
   ·rename_i hh; exact hh
   ·cases hcd
  refine ⟨(Trie.keyed_len hkw).1,fun hk => ?_⟩
  obtain ⟨e1,e2,e3⟩:=Ex.acc_item h.1 hx hk
  obtain ⟨p,hp⟩:=hw _ e2
  exact ⟨p,by rw [← e3]; exact hp,e2,hp⟩)
 obtain ⟨_,pv,xv,rfl,_⟩:=id h
 clear h hc hw hil
 generalize hits : Trie.itemsW t = its at *
 clear hits
 go_enter Tryd.func17,Tryd.ntmps17
 go_wp2_with fail
 refine HIt.out.mono ?_
 rintro e w1 ⟨A1,n1,c1,rfl,hn1,own1,hb⟩
 subst hn1
 have R1:=Lib.hid (Reads.of_own own1)
 have B1:=Lib.hid hb
 have T1:=Lib.hid (HTr.out.next hb)
 clear own1 hb HIt HTr
 go_wp2_with fail
 refine wp_loop_ghost_k (fun k a wr => ∀ Φ : Act → Prop,(∀ (s1 s2 s4 s5 s6 s7 s8 s12 s13 s14 s15 s16 s17 s18 s19 s20 s21 s22 s23 s24 s25 s26 s27 s28 s29 s30 s31 s32 s33 s34 s35 s36 s37 s38 s39 s40 s41 s42 s43 s44 s45 : Value) (i : Nat) (s : Nat),(i + k = its.length ∧ s = Ex.sumI (its.take i) ∧ s ≤ Ex.maxA * i ∧ Below w1.heap.size w1 wr) → Φ { tmps:=#[.pointer (some ⟨pv,0,none⟩),s1,s2,.int .i64 (s : Int),s4,s5,s6,s7,s8,.slice A1 its.length c1,.int .i64 its.length,.int .i64 (i : Int),s12,s13,s14,s15,s16,s17,s18,s19,s20,s21,s22,s23,s24,s25,s26,s27,s28,s29,s30,s31,s32,s33,s34,s35,s36,s37,s38,s39,s40,s41,s42,s43,s44,s45],defers := [] }) → Φ a) (its.length) ?_ ?_
 ·refine fun Φ hΦ=>hΦ _ _ _ _ _ _ _ _ _ _ _ _ _ _ _ _ _ _ _ _ _ _ _ _ _ _ _ _ _ _ _ _ _ _ _ _ _ _ _ _ _ (0) (0) ?_
  exact ⟨by omega,by simp [Ex.sumI],by omega,Below.refl _ _⟩
 ·intro k1 a1 wr1 hI1 J1 K1 hJ1 hK1
  refine hI1 (fun a=>Code.wp _ _ _ a _) ?_
  clear hI1 a1
  intro s0 s1 s2 s3 s4 s5 s6 s7 s8 s9 s10 s11 s12 s13 s14 s15 s16 s17 s18 s19 s20 s21 s22 s23 s24 s25 s26 s27 s28 s29 s30 s31 s32 s33 s34 s35 s36 s37 s38 s39 s40 i s hrel
  show Code.wp _ _ _ _ _
  obtain ⟨h1,h2,h3,hb⟩:=hrel
  by_cases hi : i < its.length
  ·have HI:=Lib.hid (And.intro h1 (And.intro h3 hb))
   obtain ⟨ad,off,rfl,hbl,hcell⟩:=icell_cells R1.out hi
   obtain ⟨r0,r1⟩:=hcell _ hb
   have hi1 : (i : Int) < its.length:=by omega
   have hi0 : (0 : Int) ≤ i:=by omega
   have hi9 : (i : Int) < 1000:=by have:=HIl.out; omega
   have HS:=Lib.hid (sumI_take its i hi)
   have hle:=Ex.amtI_le its[i]
   obtain ⟨m1,m2⟩:=HMem.out _ (List.getElem_mem hi)
   rw [← h2] at HS
   have T2:=Lib.hid (T1.out.next hb)
   have hi1000 : i < 1000:=by have:=HIl.out; omega
   clear h1 h2 hb hcell hbl
   generalize its[i] = x at *
   obtain ⟨ky,vl⟩:=x
   simp only at r0 r1 m1 m2
   go_upto_region 5 with fail
   have F1:=Live.ha (Lib.hid (Live.start wr1)) #[.string ⟨ky.toArray⟩,.string ⟨vl.toArray⟩] 62
   generalize wr1.alloc (.cells #[.string ⟨ky.toArray⟩,.string ⟨vl.toArray⟩] 62) = W1 at F1 ⊢
   generalize wr1.heap.size = ib at F1 ⊢
   clear r0 r1
   have k0_0 : W1.cell? ⟨ib,0,none⟩ = some (.string ⟨ky.toArray⟩):=F1.out.cell 0 0 rfl rfl; have k0_1 : W1.cell? ⟨ib,1,none⟩ = some (.string ⟨vl.toArray⟩):=F1.out.cell 0 1 rfl rfl
   by_cases g1 : ky.length < 3
   ·have g1' : ((ky.length : Int) < 3) = True:=by simp; omega
    have HZ : Hid (Ex.amtI (ky,vl) = 0):=Lib.hid (Ex.amtI_no (by unfold Ex.isAK; rw [decide_eq_false (by omega)]; rfl) vl)
    clear g1 hle m2 h3
    go_wp2_with fail
    refine Handed.intro (its.length - (i + 1)) ?_ (hJ1 _ _ _ (fun Φ hΦ=>hΦ _ _ _ _ _ _ _ _ _ _ _ _ _ _ _ _ _ _ _ _ _ _ _ _ _ _ _ _ _ _ _ _ _ _ _ _ _ _ _ _ _ (i + 1) (s) ?_))
    ·have:=HI.out.1; omega
    exact ⟨by have:=HI.out.1; omega,by rw [HS.out,HZ.out]; rfl,by have:=HI.out.2.1; rw [Nat.mul_succ]; omega,HI.out.2.2.nxt F1.out.b⟩
   have g1' : ((ky.length : Int) < 3) = False:=by simp; omega
   have HTk : ∀ W,(Instr.slice 9 (.string ⟨ky.toArray⟩) none (some (.int .i64 2)) none).run Tryd.prog W = .ok (.string ⟨(ky.take 2).toArray⟩) W:=fun W=>run_take ky 2 (by omega) W
   by_cases g2 : ky.take 2 = [97,58]
   ·have g2' : (ky.take 2 == [97,58]) = true:=by rw [g2]; rfl
    have hak : Ex.isAK ky = true:=by unfold Ex.isAK; rw [decide_eq_true (show 3 ≤ ky.length by omega),decide_eq_true g2]; rfl
    obtain ⟨p,q1,q2,q3⟩:=m2 hak
    have HZ:=Lib.hid (amtI_yes hak q1)
    have HTd : ∀ W,(Instr.slice 9 (.string ⟨ky.toArray⟩) (some (.int .i64 2)) none none).run Tryd.prog W = .ok (.string ⟨(ky.drop 2).toArray⟩) W:=fun W=>run_drop ky 2 (by omega) W
    have HAc:=Lib.hid (fun W v (hW : TrieP W t v)=>exec_Account W t v hW (ky.drop 2) (by rw [List.length_drop]; omega))
    unfold accW at HAc
    rw [q2,q3,if_pos rfl] at HAc
    obtain ⟨p1,p2⟩:=p
    simp only at HAc HZ
    have hpl : p1 ≤ Ex.maxA:=by have:=HZ.out; omega
    generalize ky.drop 2 = nm at *
    have hw0 : IntKind.i64.wrap ((s : Int) + (p1 : Int)) = (s : Int) + (p1 : Int):=IntWalk.i64_in _ (by unfold Ex.maxA at h3 hpl; omega)
    have HSum : Hid (s + p1 ≤ Ex.maxA * (i + 1)):=Lib.hid (by rw [Nat.mul_succ]; omega)
    clear g1 g2 hle m2 h3 hak q1 q2 q3 hpl
    go_wp2_with fail
    refine (HAc.out _ _ (T2.out.next F1.out.b)).mono ?_
    rintro e w3 ⟨rfl,hb⟩
    have F3:=Live.hb F1 hb
    clear hb F1 k0_0 k0_1 HAc
    go_upto_region 7 with fail
    have F4:=Live.ha F3 #[.string ⟨nm.toArray⟩,.int .i64 (p1 : Int),.int .i64 (p2 : Int)] 40
    generalize w3.alloc (.cells #[.string ⟨nm.toArray⟩,.int .i64 (p1 : Int),.int .i64 (p2 : Int)] 40) = w4 at F4 ⊢
    generalize w3.heap.size = ab at F4 ⊢
    clear F3
    have k0_0 : w4.cell? ⟨ab,0,none⟩ = some (.string ⟨nm.toArray⟩):=F4.out.cell 0 0 rfl rfl; have k0_1 : w4.cell? ⟨ab,1,none⟩ = some (.int .i64 (p1 : Int)):=F4.out.cell 0 1 rfl rfl; have k0_2 : w4.cell? ⟨ab,2,none⟩ = some (.int .i64 (p2 : Int)):=F4.out.cell 0 2 rfl rfl
    have hp0 : ((p1 : Int) < 0) = False:=by simp
    go_wp2_with fail
    rw [show (s : Int) + (p1 : Int) = ((s + p1 : Nat) : Int) by omega]
    refine Handed.intro (its.length - (i + 1)) ?_ (hJ1 _ _ _ (fun Φ hΦ=>hΦ _ _ _ _ _ _ _ _ _ _ _ _ _ _ _ _ _ _ _ _ _ _ _ _ _ _ _ _ _ _ _ _ _ _ _ _ _ _ _ _ _ (i + 1) (s + p1) ?_))
    ·have:=HI.out.1; omega
    exact ⟨by have:=HI.out.1; omega,by rw [HS.out,HZ.out],HSum.out,HI.out.2.2.nxt F4.out.b⟩
   ·have g2' : (ky.take 2 == [97,58]) = false:=by rw [beq_eq_false_iff_ne]; exact g2
    have HZ : Hid (Ex.amtI (ky,vl) = 0):=Lib.hid (Ex.amtI_no (by unfold Ex.isAK; rw [decide_eq_false g2]; simp) vl)
    generalize ky.take 2 = k2 at *
    clear g1 g2 hle m2 h3
    go_wp2_with fail
    refine Handed.intro (its.length - (i + 1)) ?_ (hJ1 _ _ _ (fun Φ hΦ=>hΦ _ _ _ _ _ _ _ _ _ _ _ _ _ _ _ _ _ _ _ _ _ _ _ _ _ _ _ _ _ _ _ _ _ _ _ _ _ _ _ _ _ (i + 1) (s) ?_))
    ·have:=HI.out.1; omega
    exact ⟨by have:=HI.out.1; omega,by rw [HS.out,HZ.out]; rfl,by have:=HI.out.2.1; rw [Nat.mul_succ]; omega,HI.out.2.2.nxt F1.out.b⟩
  ·have hi1 : ((i : Int) < its.length) = False:=by simp; omega
   have HE : Hid (Ex.sumI its = s):=Lib.hid (by rw [h2,List.take_of_length_le (by omega)])
   have HI:=Lib.hid hb
   clear h1 h2 h3 hb hi
   go_wp2_with fail
   exact HP.out _ _ HE.out (B1.out.nxt HI.out)
theorem allX_cases (t : Trie.T) (l : List Ex.Tx) : allX t l = ((.nil, [], []),2) ∨ allX t l = ((.nil, [], []),150) ∨ (allX t l = (Ex.allGo t l [],0) ∧ l.length ≤ 8):=by
 unfold allX
 split
 ·exact .inl rfl
 ·split
  ·exact .inr (.inl rfl)
  ·exact .inr (.inr ⟨rfl,by omega⟩)
set_option maxRecDepth 100000 in
set_option maxHeartbeats 4000000 in
theorem law_ExecSum (w : World) (A : Option Addr) (c : Nat) (l : List Ex.Ac) (B : Option Addr) (d : Nat) (set : List Pw.Mem) (C : Option Addr) (e0 : Nat) (its : List Trie.KV) (h : StartAt w A l B set C its) (D : Option Addr) (f : Nat) (L : List TxM) (HL : TxsAt w D L) (hT : Tbl w) :
  Calls Tryd.prog 5 #[.agg #[.slice A l.length c,.slice B set.length d,.slice C its.length e0],.slice D L.length f] w fun e w'=>e = .returned (.bool true) ∧ Below w.heap.size w w':=by
 have HP : Hid (∀ w',Below w.heap.size w w' → (fun e w'=>e = Ending.returned (.bool true) ∧ Below w.heap.size w w') (Ending.returned (.bool true)) w'):=Lib.hid (fun W' a2=>⟨rfl,a2⟩)
 generalize (fun e w'=>e = Ending.returned (.bool true) ∧ Below w.heap.size w w') = P at HP ⊢
 have HTb:=Lib.hid hT
 have HLL:=Lib.hid HL
 have HGn:=Lib.hid (fun W (hW : Below w.heap.size w W)=>law16_genesis W A c l B d set C e0 its (h.next hW) (hT.next hW))
 have HBg:=Lib.hid (fun W (hW : Below w.heap.size w W)=>law16_big W A c l B d set C e0 its (h.next hW) D f L (HL.next hW))
 have HCt:=Lib.hid (And.intro (Ex.genW_good l set) (Ex.genW_wfs l set))
 generalize Ex.genW l set = r at *
 obtain ⟨t0,cd⟩:=r
 simp only at HCt
 clear h HL hT
 go_enter Tryd.func5,Tryd.ntmps5
 go_upto_region 1 with fail
 have F0:=Live.ha (Lib.hid (Live.start w)) #[.slice A l.length c,.slice B set.length d,.slice C its.length e0] 26
 generalize w.alloc (.cells #[.slice A l.length c,.slice B set.length d,.slice C its.length e0] 26) = W0 at F0 ⊢
 generalize w.heap.size = sb at F0 ⊢
 go_wp2_with fail
 refine (law16_works _ (HTb.out.next F0.out.b)).mono ?_
 rintro e w1 ⟨rfl,hb⟩
 have F1:=Live.hb F0 hb
 clear hb F0
 have k0_0 : w1.cell? ⟨sb,0,none⟩ = some (.slice A l.length c):=F1.out.cell 0 0 rfl rfl; have k0_1 : w1.cell? ⟨sb,1,none⟩ = some (.slice B set.length d):=F1.out.cell 0 1 rfl rfl; have k0_2 : w1.cell? ⟨sb,2,none⟩ = some (.slice C its.length e0):=F1.out.cell 0 2 rfl rfl
 go_wp2_with fail
 refine (HGn.out _ F1.out.b).mono ?_
 rintro e w2 ⟨v2,rfl,hb,hk2,hn2⟩
 have F2:=Live.hb F1 hb
 clear hb F1 k0_0 k0_1 k0_2 HGn
 have k0_0 : w2.cell? ⟨sb,0,none⟩ = some (.slice A l.length c):=F2.out.cell 0 0 rfl rfl; have k0_1 : w2.cell? ⟨sb,1,none⟩ = some (.slice B set.length d):=F2.out.cell 0 1 rfl rfl; have k0_2 : w2.cell? ⟨sb,2,none⟩ = some (.slice C its.length e0):=F2.out.cell 0 2 rfl rfl
 simp only at hk2 hn2
 by_cases hc : cd = 0
 rotate_left
 ·obtain rfl:=hn2 hc
  clear hk2 hn2 hc
  go_wp2_with fail
  refine (HBg.out _ F2.out.b).mono ?_
  rintro e w3 ⟨b,rfl,hb,_⟩
  have F3:=Live.hb F2 hb
  clear hb F2 k0_0 k0_1 k0_2 HBg
  cases b with
  | true =>
   go_wp2_with fail
   exact HP.out _ F3.out.b
  | false =>
   go_wp2_with fail
   exact HP.out _ F3.out.b
 have K2:=Lib.hid (hk2 hc)
 obtain ⟨_,p2,x2,rfl,_⟩:=id K2.out
 clear hk2 hn2 hc
 go_wp2_with fail
 refine (HBg.out _ F2.out.b).mono ?_
 rintro e w3 ⟨b,rfl,hb,hbg⟩
 have F3:=Live.hb F2 hb
 have K3:=Lib.hid (K2.out.next hb)
 clear hb F2 k0_0 k0_1 k0_2 HBg K2 hbg
 cases b with
 | true =>
  go_wp2_with fail
  exact HP.out _ F3.out.b
 | false =>
  have HAl:=Lib.hid (exec_All w3 t0 _ K3.out (by have:=HCt.out.1.2; omega) (HTb.out.next F3.out.b) L D f (HLL.out.next F3.out.b))
  rcases allX_cases t0 (L.map (·.1)) with hx | hx | ⟨hx,hl8⟩
  ·rw [hx] at HAl
   clear hx
   go_wp2_with fail
   refine HAl.out.mono ?_
   rintro e w4 ⟨v4,A4,c4,B4,d4,rfl,hb,_,hn,_,_⟩
   obtain rfl:=hn (by simp)
   have F4:=Live.hb F3 hb
   clear hb hn F3
   go_wp2_with fail
   exact HP.out _ F4.out.b
  ·rw [hx] at HAl
   clear hx
   go_wp2_with fail
   refine HAl.out.mono ?_
   rintro e w4 ⟨v4,A4,c4,B4,d4,rfl,hb,_,hn,_,_⟩
   obtain rfl:=hn (by simp)
   have F4:=Live.hb F3 hb
   clear hb hn F3
   go_wp2_with fail
   exact HP.out _ F4.out.b
  ·rw [hx] at HAl
   have hga:=Ex.allGo_good (L.map (·.1)) t0 [] HCt.out.1.1
   have hsa:=Ex.all_sum (L.map (·.1)) t0 [] HCt.out.1.1 HCt.out.2
   have HS0:=Lib.hid (fun W v (hk : TrieP W t0 v)=>law16_sum W t0 v hk (by have:=HCt.out.1.2; omega) HCt.out.2)
   have HS1:=Lib.hid (fun W v (hk : TrieP W (Ex.allGo t0 (L.map (·.1)) []).1 v)=>law16_sum W _ v hk (by have:=HCt.out.1.2; have:=hga.2.1; omega) hsa.2)
   rw [hsa.1] at HS1
   have hrl : (Ex.allGo t0 (L.map (·.1)) []).2.1.length = L.length:=by rw [hga.2.2,List.length_map]
   clear hx hga hsa hl8
   generalize Ex.allGo t0 (L.map (·.1)) [] = ar at *
   obtain ⟨t1,Rs,Ms⟩:=ar
   simp only at hrl HS1
   have h0 : ((0 : Int) ≤ (Ex.sumI (Trie.itemsW t0) : Int)) = True:=by simp
   have hss : ((Ex.sumI (Trie.itemsW t0) : Int) == (Ex.sumI (Trie.itemsW t0) : Int)) = true:=by simp
   generalize Ex.sumI (Trie.itemsW t0) = sm at *
   have hll : ((Rs.length : Int) == (L.length : Int)) = true:=by rw [hrl]; simp
   have HRl:=Lib.hid hrl
   clear hrl
   go_wp2_with fail
   refine HAl.out.mono ?_
   rintro e w4 ⟨v4,A4,c4,B4,d4,rfl,hb,hk4,_,_,_⟩
   have F4:=Live.hb F3 hb
   have K4:=Lib.hid (And.intro (hk4 (by first | exact trivial | rfl)) (K3.out.next hb))
   obtain ⟨_,p4,x4,rfl,_⟩:=id K4.out.1
   clear hb hk4 F3 K3
   go_wp2_with fail
   refine (HS0.out _ _ K4.out.2).mono ?_
   rintro e w5 ⟨rfl,hb⟩
   have F5:=Live.hb F4 hb
   have K5:=Lib.hid (And.intro (K4.out.1.next hb) (K4.out.2.next hb))
   clear hb F4 K4
   go_wp2_with fail
   refine (HS1.out _ _ K5.out.1).mono ?_
   rintro e w6 ⟨rfl,hb⟩
   have F6:=Live.hb F5 hb
   have K6:=Lib.hid (K5.out.2.next hb)
   clear hb F5 K5
   go_wp2_with fail
   refine (HS0.out _ _ K6.out).mono ?_
   rintro e w7 ⟨rfl,hb⟩
   have F7:=Live.hb F6 hb
   clear hb F6 K6
   go_wp2_with fail
   exact HP.out _ F7.out.b
end Go.Proofs.YtomnlhbioijfhaaDoor
