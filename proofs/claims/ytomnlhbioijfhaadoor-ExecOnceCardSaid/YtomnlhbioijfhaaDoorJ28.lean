import Derived.Test.YtomnlhbioijfhaaDoorJ27
set_option linter.unusedSimpArgs false
set_option linter.unusedVariables false
namespace Go.Proofs.YtomnlhbioijfhaaDoor
open Go.RowKit Go.Instr
attribute [local go_sem] ba_get ByteArray.mk_append_mk
attribute [local go_sem ↓] Go.wp_at_zero Go.wp_at_succ
theorem do_nn {t : Trie.T} {x : Ex.Tx} (h : (Ex.doW t x).2 = 0) : (Ex.doW t x).1 ≠ .nil:=by
 obtain ⟨_,⟨d⟩⟩:=Ex.doW_done h
 rw [d.hd]
 exact Trie.put_nn _ _ _
set_option maxRecDepth 100000 in
set_option maxHeartbeats 4000000 in
theorem law_ExecOnce (w : World) (A : Option Addr) (c : Nat) (l : List Ex.Ac) (B : Option Addr) (d : Nat) (set : List Pw.Mem) (C : Option Addr) (e0 : Nat) (its : List Trie.KV) (h : StartAt w A l B set C its) (D : Option Addr) (f : Nat) (L : List TxM) (HL : TxsAt w D L) (hT : Tbl w) :
  Calls Tryd.prog 3 #[.agg #[.slice A l.length c,.slice B set.length d,.slice C its.length e0],.slice D L.length f] w fun e w'=>e = .returned (.bool true) ∧ Below w.heap.size w w':=by
 have HP : Hid (∀ w',Below w.heap.size w w' → (fun e w'=>e = Ending.returned (.bool true) ∧ Below w.heap.size w w') (Ending.returned (.bool true)) w'):=Lib.hid (fun W' a2=>⟨rfl,a2⟩)
 generalize (fun e w'=>e = Ending.returned (.bool true) ∧ Below w.heap.size w w') = P at HP ⊢
 have HTb:=Lib.hid hT
 have HLL:=Lib.hid HL
 have HGn:=Lib.hid (fun W (hW : Below w.heap.size w W)=>law16_genesis W A c l B d set C e0 its (h.next hW) (hT.next hW))
 have HBg:=Lib.hid (fun W (hW : Below w.heap.size w W)=>law16_big W A c l B d set C e0 its (h.next hW) D f L (HL.next hW))
 have HCt:=Lib.hid (Ex.genW_good l set)
 generalize Ex.genW l set = r at *
 obtain ⟨t0,cd⟩:=r
 simp only at HCt
 clear h HL hT
 go_enter Tryd.func3,Tryd.ntmps3
 go_upto_region 1 with fail
 have F0:=Live.ha (Lib.hid (Live.start w)) #[.slice A l.length c,.slice B set.length d,.slice C its.length e0] 26
 generalize w.alloc (.cells #[.slice A l.length c,.slice B set.length d,.slice C its.length e0] 26) = W0 at F0 ⊢
 generalize w.heap.size = sb at F0 ⊢
 go_wp2_with fail
 refine (law16_works _ (HTb.out.next F0.out.b)).mono ?_
 rintro e w1 ⟨rfl,hb⟩
 have F1:=Live.hb F0 hb
 clear hb F0
 have k0_0 : w1.cell? ⟨sb,0,none⟩ = some (.slice A l.length c):=F1.out.cell 0 0 rfl rfl; have k0_1 : w1.cell? ⟨sb,1,none⟩ = some (.slice B set.length d):=F1.out.cell 0 1 rfl rfl; have k0_2 : w1.cell? ⟨sb,2,none⟩ = some (.slice C its.length e0):=F1.out.cell 0 2 rfl rfl
 go_wp2_with fail
 refine (HGn.out _ F1.out.b).mono ?_
 rintro e w2 ⟨v2,rfl,hb,hk2,hn2⟩
 have F2:=Live.hb F1 hb
 clear hb F1 k0_0 k0_1 k0_2 HGn
 have k0_0 : w2.cell? ⟨sb,0,none⟩ = some (.slice A l.length c):=F2.out.cell 0 0 rfl rfl; have k0_1 : w2.cell? ⟨sb,1,none⟩ = some (.slice B set.length d):=F2.out.cell 0 1 rfl rfl; have k0_2 : w2.cell? ⟨sb,2,none⟩ = some (.slice C its.length e0):=F2.out.cell 0 2 rfl rfl
 simp only at hk2 hn2
 by_cases hc : cd = 0
 rotate_left
 ·obtain rfl:=hn2 hc
  clear hk2 hn2 hc
  go_wp2_with fail
  refine (HBg.out _ F2.out.b).mono ?_
  rintro e w3 ⟨b,rfl,hb,_⟩
  have F3:=Live.hb F2 hb
  clear hb F2 k0_0 k0_1 k0_2 HBg
  cases b with
  | true =>
   go_wp2_with fail
   exact HP.out _ F3.out.b
  | false =>
   go_wp2_with fail
   exact HP.out _ F3.out.b
 have K2:=Lib.hid (hk2 hc)
 obtain ⟨_,p2,x2,rfl,_⟩:=id K2.out
 clear hk2 hn2 hc
 go_wp2_with fail
 refine (HBg.out _ F2.out.b).mono ?_
 rintro e w3 ⟨b,rfl,hb,hbg⟩
 have F3:=Live.hb F2 hb
 have K3:=Lib.hid (K2.out.next hb)
 clear hb F2 k0_0 k0_1 k0_2 HBg K2
 cases b with
 | true =>
  clear hbg
  go_wp2_with fail
  exact HP.out _ F3.out.b
 | false =>
  have HL20:=Lib.hid (hbg rfl).1.2.2.2
  clear hbg
  go_wp2_with fail
  refine wp_loop_ghost_k (fun k a wr => ∀ Φ : Act → Prop,(∀ (s0 s1 s2 s3 s4 s6 s7 s8 s9 s10 s11 s12 s13 s14 s15 s16 s17 s18 s19 s20 s21 s22 s23 s24 s25 s29 s30 s31 s32 s33 s34 s35 s36 s37 s38 s39 s40 s41 s42 s43 s44 s45 s46 s47 s48 s49 s50 s51 s52 s53 s54 s55 s56 s57 s58 s59 s60 s61 s62 s63 s64 s65 s66 s67 s68 s69 s70 s71 s72 s73 s74 s75 : Value) (i : Nat) (t : Trie.T) (v : Value),(i + k = L.length ∧ Trie.count t ≤ 9 + 2 * i ∧ TrieP wr t v ∧ Below w.heap.size w wr) → Φ { tmps:=#[s0,s1,s2,s3,s4,v,s6,s7,s8,s9,s10,s11,s12,s13,s14,s15,s16,s17,s18,s19,s20,s21,s22,s23,s24,s25,.slice D L.length f,.int .i64 L.length,.int .i64 (i : Int),s29,s30,s31,s32,s33,s34,s35,s36,s37,s38,s39,s40,s41,s42,s43,s44,s45,s46,s47,s48,s49,s50,s51,s52,s53,s54,s55,s56,s57,s58,s59,s60,s61,s62,s63,s64,s65,s66,s67,s68,s69,s70,s71,s72,s73,s74,s75],defers := [] }) → Φ a) (L.length) ?_ ?_
  ·refine fun Φ hΦ=>hΦ _ _ _ _ _ _ _ _ _ _ _ _ _ _ _ _ _ _ _ _ _ _ _ _ _ _ _ _ _ _ _ _ _ _ _ _ _ _ _ _ _ _ _ _ _ _ _ _ _ _ _ _ _ _ _ _ _ _ _ _ _ _ _ _ _ _ _ _ _ _ _ _ (0) (t0) (.pointer (some ⟨p2,0,none⟩)) ?_
   exact ⟨by omega,by have:=HCt.out.2; omega,K3.out,F3.out.b⟩
  ·intro k1 a1 wr1 hI1 J1 K1 hJ1 hK1
   refine hI1 (fun a=>Code.wp _ _ _ a _) ?_
   clear hI1 a1
   intro s0 s1 s2 s3 s4 s5 s6 s7 s8 s9 s10 s11 s12 s13 s14 s15 s16 s17 s18 s19 s20 s21 s22 s23 s24 s25 s26 s27 s28 s29 s30 s31 s32 s33 s34 s35 s36 s37 s38 s39 s40 s41 s42 s43 s44 s45 s46 s47 s48 s49 s50 s51 s52 s53 s54 s55 s56 s57 s58 s59 s60 s61 s62 s63 s64 s65 s66 s67 s68 s69 s70 s71 i t v hrel
   show Code.wp _ _ _ _ _
   obtain ⟨h1,h2,hk,hb⟩:=hrel
   obtain ⟨_,pv,xv,rfl,_⟩:=id hk
   by_cases hi : i < L.length
   ·have HI:=Lib.hid (And.intro h1 (And.intro h2 (And.intro hk hb)))
    have HLi:=Lib.hid (HLL.out.next hb)
    obtain ⟨ad,off,rfl,hbl,hcell⟩:=tx_cells HLi.out.r hi
    obtain ⟨r0,r1,r2,r3,r4,r5,r6,r7⟩:=hcell _ (Below.refl _ _)
    have hi1 : (i : Int) < L.length:=by omega
    have hi0 : (0 : Int) ≤ i:=by omega
    have hi8 : (i : Int) < 20:=by have:=HL20.out; omega
    have hi20 : i < 20:=by have:=HL20.out; omega
    have ht:=HLi.out.t _ (List.getElem_mem hi)
    have hm:=HLi.out.m _ (List.getElem_mem hi)
    clear h1 h2 hk hb hcell hbl
    generalize L[i] = p at *
    obtain ⟨⟨kd,fr,sq,dt,am,ky,vl,mm⟩,mA,mc⟩:=p
    simp only at r0 r1 r2 r3 r4 r5 r6 r7 hm
    obtain ⟨o1,o2,o3,o4,o5⟩:=ht
    simp only at o1 o2 o3 o4 o5
    have HDo:=Lib.hid (fun W t' v' (hk : TrieP W t' v') (hc : Trie.count t' ≤ 1000) (hW : Below wr1.heap.size wr1 W)=>exec_Do W t' v' hk hc (HTb.out.next (HI.out.2.2.2.nxt hW)) kd fr sq dt am ky vl mm mA mc o1 o2 o3 o4 o5 ((hm.below hW).more hW.size))
    have hcnt:=(Ex.doW_good HI.out.2.2.1.1 ⟨kd,fr,sq,dt,am,ky,vl,mm⟩).2
    have hnn:=do_nn (t:=t) (x:=⟨kd,fr,sq,dt,am,ky,vl,mm⟩)
    have honce:=Ex.do_once HI.out.2.2.1.1 (x:=⟨kd,fr,sq,dt,am,ky,vl,mm⟩)
    have HCnt:=Lib.hid hcnt
    have HDt:=Lib.hid (fun W v' (hk : TrieP W t v') (hW : Below wr1.heap.size wr1 W)=>HDo.out W t v' hk (by have:=HI.out.2.1; omega) hW)
    have HDu:=Lib.hid (fun W v' (h0 : (Ex.doW t ⟨kd,fr,sq,dt,am,ky,vl,mm⟩).2 = 0) (hk : TrieP W (Ex.doW t ⟨kd,fr,sq,dt,am,ky,vl,mm⟩).1 v') (hW : Below wr1.heap.size wr1 W)=>by
     have:=HDo.out W _ v' hk (by have:=HI.out.2.1; have:=HCnt.out; omega) hW
     rwa [honce h0] at this)
    have HNn:=Lib.hid hnn
    clear o1 o2 o3 o4 o5 hm hcnt hnn honce HDo
    generalize Ex.doW t ⟨kd,fr,sq,dt,am,ky,vl,mm⟩ = dr at *
    obtain ⟨u,cd2⟩:=dr
    simp only at HDt HDu HNn HCnt
    go_upto_region 9 with fail
    have F4:=Live.ha (Lib.hid (Live.start wr1)) #[.int .i64 kd,.string ⟨fr.toArray⟩,.int .i64 sq,.string ⟨dt.toArray⟩,.int .i64 am,.string ⟨ky.toArray⟩,.string ⟨vl.toArray⟩,.slice mA mm.length mc] 33
    generalize wr1.alloc (.cells #[.int .i64 kd,.string ⟨fr.toArray⟩,.int .i64 sq,.string ⟨dt.toArray⟩,.int .i64 am,.string ⟨ky.toArray⟩,.string ⟨vl.toArray⟩,.slice mA mm.length mc] 33) = w4 at F4 ⊢
    generalize wr1.heap.size = xb at F4 ⊢
    clear r0 r1 r2 r3 r4 r5 r6 r7
    have K4:=Lib.hid (HI.out.2.2.1.next F4.out.b)
    have hsm : (Trie.sumT t == Trie.sumT t) = true:=by simp
    go_wp2_with fail
    refine (trie_Root _ _ _ K4.out).mono ?_
    rintro e w5 ⟨rfl,rfl⟩
    have k0_0 : w4.cell? ⟨xb,0,none⟩ = some (.int .i64 kd):=F4.out.cell 0 0 rfl rfl; have k0_1 : w4.cell? ⟨xb,1,none⟩ = some (.string ⟨fr.toArray⟩):=F4.out.cell 0 1 rfl rfl; have k0_2 : w4.cell? ⟨xb,2,none⟩ = some (.int .i64 sq):=F4.out.cell 0 2 rfl rfl; have k0_3 : w4.cell? ⟨xb,3,none⟩ = some (.string ⟨dt.toArray⟩):=F4.out.cell 0 3 rfl rfl; have k0_4 : w4.cell? ⟨xb,4,none⟩ = some (.int .i64 am):=F4.out.cell 0 4 rfl rfl; have k0_5 : w4.cell? ⟨xb,5,none⟩ = some (.string ⟨ky.toArray⟩):=F4.out.cell 0 5 rfl rfl; have k0_6 : w4.cell? ⟨xb,6,none⟩ = some (.string ⟨vl.toArray⟩):=F4.out.cell 0 6 rfl rfl; have k0_7 : w4.cell? ⟨xb,7,none⟩ = some (.slice mA mm.length mc):=F4.out.cell 0 7 rfl rfl
    obtain ⟨sm,hsm2⟩ : ∃ sm,Trie.sumT t = sm:=⟨_,rfl⟩
    have HRt : Hid (∀ W v',TrieP W t v' → Calls Tryd.prog 10 #[v'] W fun e w'=>e = .returned (.string ⟨sm.toArray⟩) ∧ W = w'):=Lib.hid (fun W v' hk=>by rw [← hsm2]; exact trie_Root W t v' hk)
    rw [hsm2] at hsm ⊢
    clear hsm2
    go_wp2_with fail
    refine (HDt.out _ _ K4.out F4.out.b).mono ?_
    rintro e w6 ⟨v6,rfl,hb,hk6,hn6⟩
    have F6:=Live.hb F4 hb
    have K6:=Lib.hid (K4.out.next hb)
    clear hb F4 K4 k0_0 k0_1 k0_2 k0_3 k0_4 k0_5 k0_6 k0_7
    have k0_0 : w6.cell? ⟨xb,0,none⟩ = some (.int .i64 kd):=F6.out.cell 0 0 rfl rfl; have k0_1 : w6.cell? ⟨xb,1,none⟩ = some (.string ⟨fr.toArray⟩):=F6.out.cell 0 1 rfl rfl; have k0_2 : w6.cell? ⟨xb,2,none⟩ = some (.int .i64 sq):=F6.out.cell 0 2 rfl rfl; have k0_3 : w6.cell? ⟨xb,3,none⟩ = some (.string ⟨dt.toArray⟩):=F6.out.cell 0 3 rfl rfl; have k0_4 : w6.cell? ⟨xb,4,none⟩ = some (.int .i64 am):=F6.out.cell 0 4 rfl rfl; have k0_5 : w6.cell? ⟨xb,5,none⟩ = some (.string ⟨ky.toArray⟩):=F6.out.cell 0 5 rfl rfl; have k0_6 : w6.cell? ⟨xb,6,none⟩ = some (.string ⟨vl.toArray⟩):=F6.out.cell 0 6 rfl rfl; have k0_7 : w6.cell? ⟨xb,7,none⟩ = some (.slice mA mm.length mc):=F6.out.cell 0 7 rfl rfl
    by_cases hc : cd2 = 0
    ·subst hc
     have U6:=Lib.hid (hk6 (by first | exact trivial | rfl))
     obtain ⟨_,p6,x6,rfl,_⟩:=id U6.out
     have hlu:=Trie.sumT_len (HNn.out (by first | exact trivial | rfl))
     clear hk6 hn6 HDt HRt hsm
     go_wp2_with fail
     refine (HDu.out _ _ (by first | exact trivial | rfl) U6.out F6.out.b).mono ?_
     rintro e w7 ⟨v7,rfl,hb,_,hn7⟩
     obtain rfl:=hn7 (by decide)
     have F7:=Live.hb F6 hb
     have U7:=Lib.hid (U6.out.next hb)
     clear hb hn7 F6 U6 k0_0 k0_1 k0_2 k0_3 k0_4 k0_5 k0_6 k0_7 HDu
     go_wp2_with fail
     refine (trie_Root _ _ _ U7.out).mono ?_
     rintro e w8 ⟨rfl,rfl⟩
     generalize Trie.sumT u = su at *
     have ne1 : (su.toArray = #[]) = False:=by simp; intro e; rw [e] at hlu; simp at hlu
     have ne2 : su.isEmpty = false:=by cases su <;> simp_all
     clear hlu
     go_wp2_with fail
     refine Handed.intro (L.length - (i + 1)) ?_ (hJ1 _ _ _ (fun Φ hΦ=>hΦ _ _ _ _ _ _ _ _ _ _ _ _ _ _ _ _ _ _ _ _ _ _ _ _ _ _ _ _ _ _ _ _ _ _ _ _ _ _ _ _ _ _ _ _ _ _ _ _ _ _ _ _ _ _ _ _ _ _ _ _ _ _ _ _ _ _ _ _ _ _ _ _ (i + 1) (u) (.pointer (some ⟨p6,0,none⟩)) ?_))
     ·have:=HI.out.1; omega
     exact ⟨by have:=HI.out.1; omega,by have:=HI.out.2.1; have:=HCnt.out; omega,U7.out,HI.out.2.2.2.nxt F7.out.b⟩
    ·obtain rfl:=hn6 hc
     have hc1 : ((cd2 : Int) == 0) = false:=by rw [beq_eq_false_iff_ne]; omega
     have hc2 : ((cd2 : Int) == cd2) = true:=by simp
     clear hk6 hn6 HDu HNn
     go_wp2_with fail
     refine (HDt.out _ _ K6.out F6.out.b).mono ?_
     rintro e w7 ⟨v7,rfl,hb,_,hn7⟩
     obtain rfl:=hn7 hc
     have F7:=Live.hb F6 hb
     have K7:=Lib.hid (K6.out.next hb)
     clear hb hn7 F6 K6 k0_0 k0_1 k0_2 k0_3 k0_4 k0_5 k0_6 k0_7 HDt hc
     go_wp2_with fail
     refine (HRt.out _ _ K7.out).mono ?_
     rintro e w8 ⟨rfl,rfl⟩
     go_wp2_with fail
     refine Handed.intro (L.length - (i + 1)) ?_ (hJ1 _ _ _ (fun Φ hΦ=>hΦ _ _ _ _ _ _ _ _ _ _ _ _ _ _ _ _ _ _ _ _ _ _ _ _ _ _ _ _ _ _ _ _ _ _ _ _ _ _ _ _ _ _ _ _ _ _ _ _ _ _ _ _ _ _ _ _ _ _ _ _ _ _ _ _ _ _ _ _ _ _ _ _ (i + 1) (t) (.pointer (some ⟨pv,0,none⟩)) ?_))
     ·have:=HI.out.1; omega
     exact ⟨by have:=HI.out.1; omega,by have:=HI.out.2.1; omega,K7.out,HI.out.2.2.2.nxt F7.out.b⟩
   ·have hi1 : ((i : Int) < L.length) = False:=by simp; omega
    have HI:=Lib.hid hb
    clear h1 h2 hk hb hi
    go_wp2_with fail
    exact HP.out _ HI.out
end Go.Proofs.YtomnlhbioijfhaaDoor
