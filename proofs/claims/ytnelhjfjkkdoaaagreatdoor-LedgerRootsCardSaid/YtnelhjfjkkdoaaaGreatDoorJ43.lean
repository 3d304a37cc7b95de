import Derived.Test.YtnelhjfjkkdoaaaGreatDoorJ41
import Derived.Test.YtnelhjfjkkdoaaaGreatDoorJ42
import Derived.Test.YtnelhjfjkkdoaaaGreatDoorJ35
import Derived.Test.YtnelhjfjkkdoaaaGreatDoorJ24
set_option linter.unusedSimpArgs false
set_option linter.unusedVariables false
namespace Go.Proofs.YtnelhjfjkkdoaaaGreatDoor
open Go.RowKit Go.Instr
attribute [local go_sem] ba_get ByteArray.mk_append_mk
attribute [local go_sem ↓] Go.wp_at_zero Go.wp_at_succ
set_option maxRecDepth 100000 in
set_option maxHeartbeats 4000000 in
theorem law_LedgerRoots (w : World) (A : Option Addr) (c : Nat) (l : List Ex.Ac) (B : Option Addr) (d : Nat) (set : List Pw.Mem) (h : S20At w A l B set) (C : Option Addr) (ce : Nat) (bl : List B20) (HB : B20At w C bl) (hT : Tbl w) :
  Calls Tryz.prog 7 #[.agg #[.slice A l.length c,.slice B set.length d],.slice C bl.length ce] w fun e w'=>e = .returned (.bool true) ∧ Below w.heap.size w w':=by
 have HP : Hid (∀ w',Below w.heap.size w w' → (fun e w'=>e = Ending.returned (.bool true) ∧ Below w.heap.size w w') (Ending.returned (.bool true)) w'):=Lib.hid (fun W' a2=>⟨rfl,a2⟩)
 generalize (fun e w'=>e = Ending.returned (.bool true) ∧ Below w.heap.size w w') = P at HP ⊢
 have HTb:=Lib.hid hT
 have HBg:=Lib.hid (fun W (hW : Below w.heap.size w W)=>law20_big W l h.xs h.al A c (h.next hW).a set B d bl C ce (HB.next hW))
 have HGr:=Lib.hid (fun (h12 : bl.length ≤ 12) W (hW : Below w.heap.size w W)=>law20_grown W l h.xs A c (h.next hW).a set h.ss B d (h.next hW).s (hT.next hW) bl C ce (HB.next hW) h12)
 unfold Grown20End at HGr
 generalize Ex.genW l set = gw at *
 obtain ⟨t0,cd⟩:=gw
 simp only at HGr
 clear h HB hT
 go_enter Tryz.func7,Tryz.ntmps7
 go_upto_region 1 with fail
 have F0:=Live.ha (Lib.hid (Live.start w)) #[.slice A l.length c,.slice B set.length d] 85
 generalize w.alloc (.cells #[.slice A l.length c,.slice B set.length d] 85) = W0 at F0 ⊢
 generalize w.heap.size = sb at F0 ⊢
 go_wp2_with fail
 refine (law20_works _ (HTb.out.next F0.out.b)).mono ?_
 rintro e w1 ⟨rfl,hb⟩
 have F1:=Live.hb F0 hb
 clear hb F0
 have k0 : w1.cell? ⟨sb,0,none⟩ = some (.slice A l.length c):=F1.out.cell 0 0 rfl rfl
 have k1 : w1.cell? ⟨sb,1,none⟩ = some (.slice B set.length d):=F1.out.cell 0 1 rfl rfl
 go_wp2_with fail
 refine (HBg.out _ F1.out.b).mono ?_
 rintro e w2 ⟨bg,rfl,hb,h12⟩
 have F2:=Live.hb F1 hb
 clear hb F1 k0 k1 HBg
 cases bg with
 | true =>
  clear h12
  go_wp2_with fail
  exact HP.out _ F2.out.b
 | false =>
 have HGr2:=Lib.hid (HGr.out (h12 rfl))
 clear HGr h12
 have k0 : w2.cell? ⟨sb,0,none⟩ = some (.slice A l.length c):=F2.out.cell 0 0 rfl rfl
 have k1 : w2.cell? ⟨sb,1,none⟩ = some (.slice B set.length d):=F2.out.cell 0 1 rfl rfl
 go_wp2_with fail
 refine (HGr2.out _ F2.out.b).mono ?_
 rintro e w3 ⟨v,rfl,hb,hok,hno⟩
 have F3:=Live.hb F2 hb
 clear hb F2 k0 k1 HGr2
 by_cases hc : cd = 0
 rotate_left
 ·obtain rfl:=hno hc
  clear hok hno hc
  go_wp2_with fail
  exact HP.out _ F3.out.b
 obtain ⟨lb,g,rfl,hg,hgL⟩:=hok hc
 clear hok hno
 obtain ⟨n,hn⟩:=hg.pos
 have HG:=Lib.hid hg.toLgRd
 have HN:=Lib.hid hn
 have HHt : Hid (∀ W,Below w3.heap.size w3 W → Calls Tryz.prog 26 #[.pointer (some ⟨lb,0,none⟩)] W fun e w'=>e = .returned (.int .i64 (n : Int)) ∧ W = w'):=Lib.hid (fun W hW=>by
  have:=lg_Height W lb g (HG.out.next hW)
  rw [HN.out,show ((n + 1 : Nat) : Int) - 1 = (n : Int) from by omega] at this
  exact this)
 have HLe:=Lib.hid (show n ≤ 1048577 by have:=HG.out.wf.le; rw [List.length_map] at this; omega)
 clear hg hgL hn hc
 go_wp2_with fail
 refine wp_loop_ghost_k (fun k a wr => ∀ Φ : Act → Prop,(∀ (s0 s1 s2 s3 s4 s7 s8 s9 s10 s11 s12 s13 s14 s15 s16 s17 s18 s19 s20 s21 s22 s23 s24 s25 s26 s27 s28 s29 s30 s31 s32 s33 s34 s35 s36 s37 s38 s39 s40 s41 s42 s43 s44 s45 s46 s47 s48 s49 s50 s51 s52 s53 s54 s55 s56 s57 s58 s59 s60 s61 s62 s63 s64 s65 s66 s67 s68 s69 s70 s71 s72 s73 s74 s75 s76 s77 s78 s79 s80 s81 s82 s83 s84 s85 s86 s87 s88 s89 s90 s91 s92 s93 s94 s95 s96 s97 s98 s99 s100 s101 s102 s103 s104 s105 s106 s107 s108 s109 s110 s111 s112 : Value) (i : Nat),(i + k = n + 1 ∧ Below w3.heap.size w3 wr) → Φ { tmps:=#[s0,s1,s2,s3,s4,.pointer (some ⟨lb,0,none⟩),.int .i64 (i : Int),s7,s8,s9,s10,s11,s12,s13,s14,s15,s16,s17,s18,s19,s20,s21,s22,s23,s24,s25,s26,s27,s28,s29,s30,s31,s32,s33,s34,s35,s36,s37,s38,s39,s40,s41,s42,s43,s44,s45,s46,s47,s48,s49,s50,s51,s52,s53,s54,s55,s56,s57,s58,s59,s60,s61,s62,s63,s64,s65,s66,s67,s68,s69,s70,s71,s72,s73,s74,s75,s76,s77,s78,s79,s80,s81,s82,s83,s84,s85,s86,s87,s88,s89,s90,s91,s92,s93,s94,s95,s96,s97,s98,s99,s100,s101,s102,s103,s104,s105,s106,s107,s108,s109,s110,s111,s112],defers := [] }) → Φ a) (n + 1) ?_ ?_
 ·refine fun Φ hΦ=>hΦ _ _ _ _ _ _ _ _ _ _ _ _ _ _ _ _ _ _ _ _ _ _ _ _ _ _ _ _ _ _ _ _ _ _ _ _ _ _ _ _ _ _ _ _ _ _ _ _ _ _ _ _ _ _ _ _ _ _ _ _ _ _ _ _ _ _ _ _ _ _ _ _ _ _ _ _ _ _ _ _ _ _ _ _ _ _ _ _ _ _ _ _ _ _ _ _ _ _ _ _ _ _ _ _ _ _ _ _ _ _ _ (0) ?_
  exact ⟨by omega,Below.refl _ _⟩
 ·intro k1 a1 wr1 hI1 J1 K1 hJ1 hK1
  refine hI1 (fun a=>Code.wp _ _ _ a _) ?_
  clear hI1 a1
  intro s0 s1 s2 s3 s4 s5 s6 s7 s8 s9 s10 s11 s12 s13 s14 s15 s16 s17 s18 s19 s20 s21 s22 s23 s24 s25 s26 s27 s28 s29 s30 s31 s32 s33 s34 s35 s36 s37 s38 s39 s40 s41 s42 s43 s44 s45 s46 s47 s48 s49 s50 s51 s52 s53 s54 s55 s56 s57 s58 s59 s60 s61 s62 s63 s64 s65 s66 s67 s68 s69 s70 s71 s72 s73 s74 s75 s76 s77 s78 s79 s80 s81 s82 s83 s84 s85 s86 s87 s88 s89 s90 s91 s92 s93 s94 s95 s96 s97 s98 s99 s100 s101 s102 s103 s104 s105 s106 s107 s108 s109 s110 i hrel
  show Code.wp _ _ _ _ _
  obtain ⟨h1,hb⟩:=hrel
  have F:=Lib.hid (Live.start wr1)
  have HB0:=Lib.hid hb
  go_wp2_with fail
  refine (HHt.out _ hb).mono ?_
  rintro e wz ⟨rfl,rfl⟩
  clear hb
  have hwi : IntKind.i64.wrap ((i : Int) + 1) = (i : Int) + 1:=IntWalk.i64_in _ (by have:=HLe.out; have:=h1; omega)
  by_cases hi : i < n + 1
  ·have hi1 : ((i : Int) ≤ (n : Int)):=by omega
   have HI:=Lib.hid (And.intro h1 hi)
   obtain ⟨p,hp⟩ : ∃ p,g.es[i]'(by rw [HN.out]; omega) = p:=⟨_,rfl⟩
   have HHa:=Lib.hid (fun W (hW : Below wr1.heap.size wr1 W)=>lg_Head W lb g (HG.out.next (HB0.out.nxt hW)) i (by rw [HN.out]; omega) p hp)
   have HSt:=Lib.hid (fun W (hW : Below wr1.heap.size wr1 W)=>lg_State W lb g (HG.out.next (HB0.out.nxt hW)) i (by rw [HN.out]; omega) p hp)
   have HRc:=Lib.hid (fun W (hW : Below wr1.heap.size wr1 W)=>lg_Receipts W lb g (HG.out.next (HB0.out.nxt hW)) i (by rw [HN.out]; omega) p hp)
   have HTx:=Lib.hid (fun W (hW : Below wr1.heap.size wr1 W)=>lg_Txs W lb g (HG.out.next (HB0.out.nxt hW)) i (by rw [HN.out]; omega) p hp)
   have hpm : p ∈ g.es:=by rw [← hp]; exact List.getElem_mem _
   have ok : LeOk w3 p:=HG.out.ok p hpm
   have rt : Led.Rt p.en:=HG.out.rt p.en (List.mem_map.2 ⟨p,hpm,rfl⟩)
   have HRoot : Hid (∀ W,Below wr1.heap.size wr1 W → Calls Tryz.prog 20 #[p.sv] W fun e w'=>e = .returned (.string ⟨p.en.hd.st.toArray⟩) ∧ W = w'):=Lib.hid (fun W hW=>by
    have:=trie_Root W p.en.st p.sv (ok.t.next (HB0.out.nxt hW))
    rwa [← rt.st] at this)
   have HRR : Hid (∀ W RA rc,Below w3.heap.size w3 W → Reads W W.heap.size 3 RA p.en.rcs.length (rcs p.en.rcs) → Calls Tryz.prog 44 #[.slice RA p.en.rcs.length rc] W (Ret W (.tuple #[.string ⟨p.en.hd.rc.toArray⟩,.int .i64 0]))):=Lib.hid (fun W RA rc hW hr=>by
    have:=receipt_RootF p.en.rcs (fun x hx=>by have:=(rt.rok x hx); unfold rcOk at this; omega) W (HTb.out.next (F3.out.b.trans (hW.mono F3.out.b.size))) RA rc hr
    unfold RRootEnd at this
    have e:=rt.rc
    unfold Led.rootR at e
    rw [← e,rt.tree] at this
    exact this)
   have HTR : Hid (∀ W l' XA xc,Below w3.heap.size w3 W → TxsAt W XA l' → l'.map (·.1) = p.tl.map (·.1) → Calls Tryz.prog 45 #[.slice XA p.en.rcs.length xc] W (Ret W (.tuple #[.string ⟨p.en.hd.tx.toArray⟩,.int .i64 0]))):=Lib.hid (fun W l' XA xc hW ht hm=>by
    have em : l'.map (·.1) = p.en.txs:=hm.trans ok.xe.symm
    have hl : l'.length = p.en.rcs.length:=by rw [rt.len,← em,List.length_map]
    have:=tx_Root W XA xc l' ht (by rw [hl,rt.len]; exact rt.few) (fun q hq=>rt.fine _ (by rw [← em]; exact List.mem_map.2 ⟨q,hq,rfl⟩)) (HTb.out.next (F3.out.b.trans (hW.mono F3.out.b.size)))
    rw [em,← rt.tx,hl] at this
    exact this)
   have HLn : Hid (∀ l' : List TxM,l'.map (·.1) = p.tl.map (·.1) → l'.length = p.en.rcs.length):=Lib.hid (fun l' hm=>by rw [rt.len,ok.xe,← hm,List.length_map])
   obtain ⟨_,vb,vx,hsv,_⟩:=ok.t
   rw [hsv] at HSt HRoot
   clear ok rt hpm hp hi h1 HG HN hsv
   generalize p.en.hd = a at *
   generalize p.en.rcs = R at *
   go_wp2_with fail
   refine (HHa.out _ F.out.b).mono ?_
   rintro e W4 ⟨kA,kc,rfl,hb4,_⟩
   have F:=Live.hb F hb4
   clear hb4 HHa
   go_upto_region 12 with fail
   have F:=Live.ha F #[.int .i64 a.hgt,.int .i64 a.epo,.int .i64 a.vw,.bool a.last,.string ⟨a.par.toArray⟩,.string ⟨a.st.toArray⟩,.string ⟨a.rc.toArray⟩,.string ⟨a.tx.toArray⟩,.string ⟨a.mem.toArray⟩,.string ⟨a.nxt.toArray⟩,.slice kA a.sk.length kc] 65
   generalize W4.alloc (.cells #[.int .i64 a.hgt,.int .i64 a.epo,.int .i64 a.vw,.bool a.last,.string ⟨a.par.toArray⟩,.string ⟨a.st.toArray⟩,.string ⟨a.rc.toArray⟩,.string ⟨a.tx.toArray⟩,.string ⟨a.mem.toArray⟩,.string ⟨a.nxt.toArray⟩,.slice kA a.sk.length kc] 65) = W5 at F ⊢
   generalize W4.heap.size = ha at F ⊢
   go_wp2_with fail
   refine (HSt.out _ F.out.b).mono ?_
   rintro e W6 ⟨rfl,hb6⟩
   have F:=Live.hb F hb6
   clear hb6 HSt
   go_wp2_with fail
   refine (HRc.out _ F.out.b).mono ?_
   rintro e W7 ⟨RA,rc,rfl,hb7,hr7⟩
   have F:=Live.hb F hb7
   have HR7:=Lib.hid (fun W (hW : Below W7.heap.size W7 W)=>HRR.out W RA rc ((HB0.out.nxt F.out.b).nxt hW) ((hr7.below hW).more hW.size))
   have FX:=Lib.hid (Live.start W7)
   clear hb7 hr7 HRc HRR
   go_wp2_with fail
   refine (HTx.out _ F.out.b).mono ?_
   rintro e W8 ⟨l8,XA,xc,rfl,hb8,hm8,ht8⟩
   have F:=Live.hb F hb8
   have FX:=Live.hb FX hb8
   have HT8:=Lib.hid (fun W (hW : Below W8.heap.size W8 W)=>HTR.out W l8 XA xc ((HB0.out.nxt F.out.b).nxt hW) (ht8.next hW) hm8)
   rw [HLn.out l8 hm8]
   have FY:=Lib.hid (Live.start W8)
   clear hb8 hm8 ht8 HTx HTR HLn
   generalize R.length = rn at *
   go_wp2_with fail
   refine (HR7.out _ FX.out.b).mono ?_
   rintro e W9 ⟨rfl,hb9⟩
   have F:=Live.hb F hb9
   have FY:=Live.hb FY hb9
   clear hb9 HR7 FX
   go_wp2_with fail
   refine (HT8.out _ FY.out.b).mono ?_
   rintro e W10 ⟨rfl,hb10⟩
   have F:=Live.hb F hb10
   clear hb10 HT8 FY
   have HR10:=Lib.hid (fun W (hW : Below W10.heap.size W10 W)=>HRoot.out W (F.out.b.nxt hW))
   have HS10 : Hid (∀ W,Below W10.heap.size W10 W → W.cell? ⟨ha,5,none⟩ = some (.string ⟨a.st.toArray⟩) ∧ W.cell? ⟨ha,6,none⟩ = some (.string ⟨a.rc.toArray⟩) ∧ W.cell? ⟨ha,7,none⟩ = some (.string ⟨a.tx.toArray⟩)):=Lib.hid (fun W hW=>by
    have b1:=(F.out.blk 0 rfl).below hW (F.out.blk 0 rfl).lt
    exact ⟨b1.cell 5,b1.cell 6,b1.cell 7⟩)
   have HF10:=Lib.hid (HB0.out.nxt F.out.b)
   have FZ:=Lib.hid (Live.start W10)
   clear F HRoot
   go_upto_region 17 with fail
   refine wp_region_held_drew (S:=fun w'=>w'.cell? ⟨ha,5,none⟩ = some (.string ⟨a.st.toArray⟩) ∧ w'.cell? ⟨ha,6,none⟩ = some (.string ⟨a.rc.toArray⟩) ∧ w'.cell? ⟨ha,7,none⟩ = some (.string ⟨a.tx.toArray⟩)) (by kernel_rfl) (HS10.out _ (live_drew FZ).out.b) (fun hHeld => ?_)
   have F:=live_drew FZ
   generalize W10.drew = Wd at F hHeld ⊢
   try go_frame
   refine tk 0 69 rfl ?_
   try go_frame
   refine tk 1 70 rfl ?_
   try go_frame
   refine tk 2 71 rfl ?_
   try go_frame
   refine tk 3 72 rfl ?_
   try go_frame
   refine tk 4 73 rfl ?_
   try go_frame
   refine tk 5 74 rfl ?_
   try go_frame
   refine tk 6 75 rfl ?_
   try go_frame
   refine tk 7 76 rfl ?_
   try go_frame
   refine tk 8 77 rfl ?_
   try go_frame
   refine tk 9 78 rfl ?_
   try go_frame
   refine tk 10 79 rfl ?_
   try go_frame
   refine tk 11 80 rfl ?_
   try go_frame
   refine tk 12 81 rfl ?_
   try go_frame
   refine tk 13 82 rfl ?_
   try go_frame
   refine tk 14 83 rfl ?_
   try go_frame
   refine tk 15 84 rfl ?_
   try go_frame
   refine tk 16 85 rfl ?_
   try go_frame
   refine tk 17 86 rfl ?_
   try go_frame
   refine tk 18 87 rfl ?_
   try go_frame
   refine tk 19 88 rfl ?_
   try go_frame
   refine tk 20 89 rfl ?_
   try go_frame
   refine tk 21 90 rfl ?_
   try go_frame
   refine rd1 22 rfl (fun K hK => ?_)
   go_simp
   (with_reducible refine (HR10.out _ ?_).mono ?_)
   ·exact F.out.b
   rintro e Wc ⟨rfl,rfl⟩
   go_simp
   refine hK.out _ _ hHeld (fun hHeld => ?_)
   clear hK K
   try go_frame
   refine tk 23 92 rfl ?_
   try go_frame
   refine tk 24 93 rfl ?_
   try go_frame
   refine tk 25 94 rfl ?_
   try go_frame
   refine tk 26 95 rfl ?_
   try go_frame
   refine tk 27 96 rfl ?_
   try go_frame
   refine tk 28 97 rfl ?_
   try go_frame
   refine tk 29 98 rfl ?_
   try go_frame
   refine tk 30 99 rfl ?_
   try go_frame
   refine tk 31 100 rfl ?_
   try go_frame
   refine tk 32 101 rfl ?_
   try go_frame
   refine tk 33 102 rfl ?_
   try go_frame
   refine tk 34 103 rfl ?_
   try go_frame
   refine tk 35 104 rfl ?_
   try go_frame
   refine tk 36 105 rfl ?_
   try go_frame
   refine tk 37 106 rfl ?_
   try go_frame
   refine tk 38 107 rfl ?_
   try go_frame
   refine tk 39 108 rfl ?_
   try go_frame
   refine tk 40 109 rfl ?_
   try go_frame
   refine tk 41 110 rfl ?_
   try go_frame
   refine tk 42 111 rfl ?_
   try go_frame
   refine tk 43 112 rfl ?_
   try go_frame
   refine wpAnyH_done (by kernel_rfl) ?_ _
   go_wp2_with fail
   refine Handed.intro (n + 1 - (i + 1)) ?_ (hJ1 _ _ _ (fun Φ hΦ=>hΦ _ _ _ _ _ _ _ _ _ _ _ _ _ _ _ _ _ _ _ _ _ _ _ _ _ _ _ _ _ _ _ _ _ _ _ _ _ _ _ _ _ _ _ _ _ _ _ _ _ _ _ _ _ _ _ _ _ _ _ _ _ _ _ _ _ _ _ _ _ _ _ _ _ _ _ _ _ _ _ _ _ _ _ _ _ _ _ _ _ _ _ _ _ _ _ _ _ _ _ _ _ _ _ _ _ _ _ _ _ _ _ (i + 1) ?_))
   ·have:=HI.out; omega
   exact ⟨by have:=HI.out; omega,HF10.out.nxt F.out.b⟩
  ·have hi1 : ((i : Int) ≤ (n : Int)) = False:=by simp; omega
   clear hi h1 HG HN hwi
   go_wp2_with fail
   exact HP.out _ (F3.out.b.trans (HB0.out.mono F3.out.b.size))
end Go.Proofs.YtnelhjfjkkdoaaaGreatDoor
