import Derived.Test.YtnelhjfjkkdoaaaGreatDoorJ41
import Derived.Test.YtnelhjfjkkdoaaaGreatDoorJ42
import Derived.Test.YtnelhjfjkkdoaaaGreatDoorJ46
import Derived.Test.YtnelhjfjkkdoaaaGreatDoorJ48
import Derived.BigFrame
set_option linter.unusedSimpArgs false
set_option linter.unusedVariables false
namespace Go.Proofs.YtnelhjfjkkdoaaaGreatDoor
open Go.RowKit Go.Instr
attribute [local go_sem] ba_get ByteArray.mk_append_mk
attribute [local go_sem ↓] Go.wp_at_zero Go.wp_at_succ
theorem Frm.reads {w w' : World} {lb : Nat} {o : Option Nat} (h : Frm w w' lb o) {size n : Nat} {A : Option Addr} {xs : List Value} (hr : Reads w w.heap.size size A n xs) (ha : ∀ a,A = some a → a.block ≠ lb ∧ some a.block ≠ o) : Reads w' w'.heap.size size A n xs:=by
 refine ⟨hr.1,fun hn => ?_⟩
 obtain ⟨ad,e,hlt,hc⟩:=hr.2 hn
 obtain ⟨h1,h2⟩:=ha ad e
 refine ⟨ad,e,Nat.lt_of_lt_of_le hlt h.size,fun j u hu => ?_⟩
 rw [← hc j u hu]
 have hb : (ad.add j).block = ad.block:=by unfold Addr.add; split <;> rfl
 have he : w'.heap[(ad.add j).block]? = w.heap[(ad.add j).block]?:=by rw [hb]; exact h.block _ hlt h1 h2
 unfold World.cell?
 rw [he]
theorem load_want20 {P : Program} {ops : Array Oper} {rest : List Oper} {op : Oper} {a : Act} {w : World} {Q : Exit → Act → World → Prop} (hw : Region.wanted op (yielded ops a.tmps) = true) (ty : TypeId) (x : Operand) (ho : op.op = .load ty x)
  (b o : Nat) (hx : a.eval x = .pointer (some ⟨b,o,none⟩)) (cs : List Value) (d : TypeDesc) (hc : w.rangeAt b o cs)
  (hu : P.underlying ty = some d) (hd : d.isRow = true) (hi : (P.info? ty).map (·.size) = some cs.length)
  (h : wpList P ops Q rest (a.put op.dst (.agg cs.toArray)) w) : wpList P ops Q (op :: rest) a w :=
 Go.BigFrame.wpList_want hw fun _ hK=>wp_load_mid ty x ho b o hx cs d hc hu hd hi (hK _ _ h)
theorem B20At.nil (w : World) : B20At w none []:=⟨Reads.none_,by simp,by simp⟩
set_option maxRecDepth 100000 in
set_option maxHeartbeats 4000000 in
theorem law_LedgerForks (w : World) (A : Option Addr) (c : Nat) (l : List Ex.Ac) (B : Option Addr) (d : Nat) (set : List Pw.Mem) (h : S20At w A l B set) (C : Option Addr) (ce : Nat) (bl : List B20) (HB : B20At w C bl) (D : Option Addr) (de : Nat) (cl : List B20) (HD : B20At w D cl) (hT : Tbl w) :
  Calls Tryz.prog 6 #[.agg #[.slice A l.length c,.slice B set.length d],.slice C bl.length ce,.slice D cl.length de] w fun e w'=>e = .returned (.bool true) ∧ Below w.heap.size w w':=by
 have HP : Hid (∀ w',Below w.heap.size w w' → (fun e w'=>e = Ending.returned (.bool true) ∧ Below w.heap.size w w') (Ending.returned (.bool true)) w'):=Lib.hid (fun W' a2=>⟨rfl,a2⟩)
 generalize (fun e w'=>e = Ending.returned (.bool true) ∧ Below w.heap.size w w') = P at HP ⊢
 have HTb:=Lib.hid hT
 have SZH : Hid ((Tryz.prog.info? 65).map (·.size) = some 11):=Lib.hid (by kernel_rfl)
 have HBl:=Lib.hid HB
 have HCl:=Lib.hid HD
 have HBg:=Lib.hid (fun W (hW : Below w.heap.size w W)=>law20_big W l h.xs h.al A c (h.next hW).a set B d bl C ce (HB.next hW))
 have HBg2:=Lib.hid (fun W (hW : Below w.heap.size w W)=>law20_big W l h.xs h.al A c (h.next hW).a set B d cl D de (HD.next hW))
 have HGr:=Lib.hid (fun (h12 : bl.length ≤ 12) W (hW : Below w.heap.size w W)=>law20_grown W l h.xs A c (h.next hW).a set h.ss B d (h.next hW).s (hT.next hW) bl C ce (HB.next hW) h12)
 have HGr0:=Lib.hid (fun W (hW : Below w.heap.size w W)=>law20_grown W l h.xs A c (h.next hW).a set h.ss B d (h.next hW).s (hT.next hW) [] none 0 (B20At.nil W) (by simp))
 have HF0:=Lib.hid (Led.newE_few l set)
 unfold Grown20End at HGr HGr0
 generalize Ex.genW l set = gw at *
 obtain ⟨t0,cd⟩:=gw
 simp only at HGr HGr0 HF0
 simp only [List.map_nil,List.length_nil] at HGr0
 clear h HB HD hT
 go_enter Tryz.func6,Tryz.ntmps6
 go_upto_region 1 with fail
 have F0:=Live.ha (Lib.hid (Live.start w)) #[.slice A l.length c,.slice B set.length d] 85
 generalize w.alloc (.cells #[.slice A l.length c,.slice B set.length d] 85) = W0 at F0 ⊢
 generalize w.heap.size = sb at F0 ⊢
 go_wp2_with fail
 refine (law20_works _ (HTb.out.next F0.out.b)).mono ?_
 rintro e w1 ⟨rfl,hb⟩
 have F1:=Live.hb F0 hb
 clear hb F0
 have k0 : w1.cell? ⟨sb,0,none⟩ = some (.slice A l.length c):=F1.out.cell 0 0 rfl rfl
 have k1 : w1.cell? ⟨sb,1,none⟩ = some (.slice B set.length d):=F1.out.cell 0 1 rfl rfl
 go_wp2_with fail
 refine (HBg.out _ F1.out.b).mono ?_
 rintro e w2 ⟨bg,rfl,hb,h12⟩
 have F2:=Live.hb F1 hb
 clear hb F1 k0 k1 HBg
 cases bg with
 | true =>
  clear h12
  go_wp2_with fail
  exact HP.out _ F2.out.b
 | false =>
 have H12:=Lib.hid (h12 rfl)
 have HGr2:=Lib.hid (HGr.out (h12 rfl))
 clear HGr h12
 have k0 : w2.cell? ⟨sb,0,none⟩ = some (.slice A l.length c):=F2.out.cell 0 0 rfl rfl
 have k1 : w2.cell? ⟨sb,1,none⟩ = some (.slice B set.length d):=F2.out.cell 0 1 rfl rfl
 go_wp2_with fail
 refine (HBg2.out _ F2.out.b).mono ?_
 rintro e w3 ⟨bg,rfl,hb,h12⟩
 have F3:=Live.hb F2 hb
 clear hb F2 k0 k1 HBg2
 cases bg with
 | true =>
  clear h12
  go_wp2_with fail
  exact HP.out _ F3.out.b
 | false =>
 have H12b:=Lib.hid (h12 rfl)
 clear h12
 have k0 : w3.cell? ⟨sb,0,none⟩ = some (.slice A l.length c):=F3.out.cell 0 0 rfl rfl
 have k1 : w3.cell? ⟨sb,1,none⟩ = some (.slice B set.length d):=F3.out.cell 0 1 rfl rfl
 go_wp2_with fail
 refine (HGr0.out _ F3.out.b).mono ?_
 rintro e w4 ⟨v,rfl,hb,hok,hno⟩
 clear k0 k1 HGr0
 by_cases hc : cd = 0
 rotate_left
 ·obtain rfl:=hno hc
  clear hok hno hc
  have F4:=Live.hb F3 hb
  clear hb
  go_wp2_with fail
  exact HP.out _ F4.out.b
 obtain ⟨lb,g,rfl,hg,hgL⟩:=hok hc
 have HC:=Lib.hid hc
 clear hok hno hc
 have hgL : g.L = [Led.newE t0 set]:=hgL
 have HG4:=Lib.hid hg
 have HL4:=Lib.hid hgL
 have HB4:=Lib.hid hb
 generalize [Led.newE t0 set] = L0 at *
 clear hg hgL hb
 go_wp2_with fail
 refine wp_loop_ghost_k (fun k a wr => ∀ Φ : Act → Prop,(∀ (s0 s4 s5 s6 s8 s9 s10 s11 s12 s13 s14 s15 s16 s17 s18 s19 s20 s21 s22 s23 s24 s25 s26 s27 s28 s29 s30 s31 s32 s33 s34 s35 s36 s40 s41 s42 s43 s44 s45 s46 s47 s48 s49 s50 s51 s52 s53 s54 s55 s56 s57 s58 s59 s60 s61 s62 s63 s64 s65 s66 s67 s68 s69 s70 s71 s72 s73 s74 s75 s76 s77 s78 s79 s80 s81 s82 s83 s84 s85 s86 s87 s88 s89 s90 s91 s92 s93 s94 s95 s96 s97 s98 s99 s100 s101 s102 s103 s104 s105 s106 s107 s108 s109 s110 s111 s112 s113 s114 s115 s116 s117 s118 s119 s120 s121 s122 s123 s124 s125 s126 s127 : Value) (i : Nat) (g : LgM),(i + k = bl.length ∧ LgAt wr w3.heap.size lb g ∧ g.L = Led.growW L0 ((bl.take i).map B20.p) ∧ Led.Few g.L (9 + 16 * i) ∧ Below w3.heap.size w3 wr) → Φ { tmps:=#[s0,.slice C bl.length ce,.slice D cl.length de,.pointer (some ⟨sb,0,none⟩),s4,s5,s6,.pointer (some ⟨lb,0,none⟩),s8,s9,s10,s11,s12,s13,s14,s15,s16,s17,s18,s19,s20,s21,s22,s23,s24,s25,s26,s27,s28,s29,s30,s31,s32,s33,s34,s35,s36,.slice C bl.length ce,.int .i64 (bl.length : Int),.int .i64 (i : Int),s40,s41,s42,s43,s44,s45,s46,s47,s48,s49,s50,s51,s52,s53,s54,s55,s56,s57,s58,s59,s60,s61,s62,s63,s64,s65,s66,s67,s68,s69,s70,s71,s72,s73,s74,s75,s76,s77,s78,s79,s80,s81,s82,s83,s84,s85,s86,s87,s88,s89,s90,s91,s92,s93,s94,s95,s96,s97,s98,s99,s100,s101,s102,s103,s104,s105,s106,s107,s108,s109,s110,s111,s112,s113,s114,s115,s116,s117,s118,s119,s120,s121,s122,s123,s124,s125,s126,s127],defers := [] }) → Φ a) (bl.length) ?_ ?_
 ·refine fun Φ hΦ=>hΦ _ _ _ _ _ _ _ _ _ _ _ _ _ _ _ _ _ _ _ _ _ _ _ _ _ _ _ _ _ _ _ _ _ _ _ _ _ _ _ _ _ _ _ _ _ _ _ _ _ _ _ _ _ _ _ _ _ _ _ _ _ _ _ _ _ _ _ _ _ _ _ _ _ _ _ _ _ _ _ _ _ _ _ _ _ _ _ _ _ _ _ _ _ _ _ _ _ _ _ _ _ _ _ _ _ _ _ _ _ _ _ _ _ _ _ _ _ _ _ _ _ (0) (g) ?_
  exact ⟨by omega,HG4.out,HL4.out,by rw [HL4.out]; exact HF0.out,HB4.out⟩
 ·intro k1 a1 wr1 hI1 J1 K1 hJ1 hK1
  refine hI1 (fun a=>Code.wp _ _ _ a _) ?_
  clear hI1 a1
  intro s0 s1 s2 s3 s4 s5 s6 s7 s8 s9 s10 s11 s12 s13 s14 s15 s16 s17 s18 s19 s20 s21 s22 s23 s24 s25 s26 s27 s28 s29 s30 s31 s32 s33 s34 s35 s36 s37 s38 s39 s40 s41 s42 s43 s44 s45 s46 s47 s48 s49 s50 s51 s52 s53 s54 s55 s56 s57 s58 s59 s60 s61 s62 s63 s64 s65 s66 s67 s68 s69 s70 s71 s72 s73 s74 s75 s76 s77 s78 s79 s80 s81 s82 s83 s84 s85 s86 s87 s88 s89 s90 s91 s92 s93 s94 s95 s96 s97 s98 s99 s100 s101 s102 s103 s104 s105 s106 s107 s108 s109 s110 s111 s112 s113 s114 s115 s116 s117 s118 s119 s120 i g hrel
  show Code.wp _ _ _ _ _
  obtain ⟨h1,hg,hgL,hf,hb⟩:=hrel
  have hbw : Below w.heap.size w wr1:=F3.out.b.trans (hb.mono F3.out.b.size)
  by_cases hi : i < bl.length
  ·obtain ⟨ad,off,hC,hbl,hcell⟩:=flat_cells b2cell_len (by decide) HBl.out.r hi
   subst hC
   have r0 : wr1.cell? ⟨ad,off + i * 3,none⟩ = some (.int .i64 bl[i].1):=hcell _ hbw 0 _ rfl
   have r1 : wr1.cell? ⟨ad,off + i * 3 + 1,none⟩ = some (.int .i64 bl[i].2.1):=hcell _ hbw 1 _ rfl
   have r2 : wr1.cell? ⟨ad,off + i * 3 + 2,none⟩ = some (.slice bl[i].2.2.2.1 bl[i].2.2.1.length bl[i].2.2.2.2):=hcell _ hbw 2 _ rfl
   have hi1 : (i : Int) < bl.length:=by omega
   have hi0 : (0 : Int) ≤ i:=by omega
   have hwi : IntKind.i64.wrap ((i : Int) + 1) = (i : Int) + 1:=IntWalk.i64_in _ (by have:=HBl.out.n; omega)
   have HTx:=Lib.hid ((HBl.out.next hbw).t _ (List.getElem_mem hi))
   have HNx : Hid (Led.growW L0 ((bl.take (i + 1)).map B20.p) = (Led.addW g.L bl[i].p.1 bl[i].p.2).1):=Lib.hid (by
    rw [List.take_succ_eq_append_getElem hi,List.map_append,List.map_singleton,Led.growW_snoc,← hgL])
   have HI:=Lib.hid (And.intro h1 (And.intro hi (And.intro hf (And.intro hb hg))))
   have HBW:=Lib.hid hbw
   obtain ⟨n,hn⟩:=hg.pos
   have HN:=Lib.hid hn
   have HLn : Hid (n ≤ 1048577):=Lib.hid (by have:=hg.wf.le; rw [List.length_map] at this; omega)
   clear hcell hbl h1 hf hg hgL hn hb hbw
   generalize bl[i] = bk at *
   obtain ⟨kd,vw,L,tA,tc⟩:=bk
   simp only at r0 r1 r2 HTx
   clear hi
   go_upto_region 11 with fail
   have F:=Live.ha (Lib.hid (Live.start wr1)) #[.int .i64 kd,.int .i64 vw,.slice tA L.length tc] 94
   generalize wr1.alloc (.cells #[.int .i64 kd,.int .i64 vw,.slice tA L.length tc] 94) = W5 at F ⊢
   have BT : Hid (∀ W,Below W5.heap.size W5 W → Blk W wr1.heap.size 94 #[.int .i64 kd,.int .i64 vw,.slice tA L.length tc]):=Lib.hid (fun W hW=>(F.out.blk 0 rfl).below hW (F.out.blk 0 rfl).lt)
   have HG5:=Lib.hid (HI.out.2.2.2.2.next F.out.b)
   have HTx5:=Lib.hid (HTx.out.next F.out.b)
   have HB5:=Lib.hid (HI.out.2.2.2.1.nxt F.out.b)
   generalize wr1.heap.size = tb at BT F ⊢
   clear r0 r1 r2
   go_wp2_with fail
   refine (led_Fork W5 w3.heap.size lb g HG5.out).mono ?_
   rintro e W6 ⟨fb,rfl,hb6,hfo⟩
   have HG6:=Lib.hid (HG5.out.next hb6)
   have HFO:=Lib.hid hfo
   have HB6:=Lib.hid hb6
   have HHt : Hid (∀ W,Below W5.heap.size W5 W → Calls Tryz.prog 26 #[.pointer (some ⟨lb,0,none⟩)] W fun e w'=>e = .returned (.int .i64 (n : Int)) ∧ W = w'):=Lib.hid (fun W hW=>by
    have:=lg_Height W lb g (HG5.out.next hW).toLgRd
    rw [HN.out,show ((n + 1 : Nat) : Int) - 1 = (n : Int) from by omega] at this
    exact this)
   clear hb6 hfo F
   go_wp2_with fail
   refine (HHt.out _ HB6.out).mono ?_
   rintro e wz ⟨rfl,rfl⟩
   go_wp2_with fail
   have HFF : Hid (Led.Few g.fork.L (9 + 16 * 12)):=Lib.hid (HI.out.2.2.1.mono (by have:=H12.out; have:=HI.out.2.1; omega))
   refine wp_loop_ghost_k (fun k a wr => ∀ Φ : Act → Prop,(∀ (s0 s4 s5 s6 s8 s12 s13 s14 s15 s16 s17 s18 s19 s20 s21 s22 s23 s24 s25 s26 s27 s28 s29 s30 s31 s32 s33 s34 s35 s36 s40 s41 s42 s43 s44 s45 s46 s50 s51 s52 s53 s54 s55 s56 s57 s58 s59 s60 s61 s62 s63 s64 s65 s66 s67 s68 s69 s70 s71 s72 s73 s74 s75 s76 s77 s78 s79 s80 s81 s82 s83 s84 s85 s86 s87 s88 s89 s90 s91 s92 s93 s94 s95 s96 s97 s98 s99 s100 s101 s102 s103 s104 s105 s106 s107 s108 s109 s110 s111 s112 s113 s114 s115 s116 s117 s118 s119 s120 s121 s122 s123 s124 s125 s126 s127 : Value) (j : Nat) (gf : LgM) (o : Option Nat),(j + k = cl.length ∧ LgO wr W5.heap.size fb gf o ∧ Led.Few gf.L (9 + 16 * 12 + 16 * j) ∧ Below W5.heap.size W5 wr) → Φ { tmps:=#[s0,.slice (some ⟨ad,off,none⟩) bl.length ce,.slice D cl.length de,.pointer (some ⟨sb,0,none⟩),s4,s5,s6,.pointer (some ⟨lb,0,none⟩),s8,.pointer (some ⟨tb,0,none⟩),.pointer (some ⟨fb,0,none⟩),.int .i64 (n : Int),s12,s13,s14,s15,s16,s17,s18,s19,s20,s21,s22,s23,s24,s25,s26,s27,s28,s29,s30,s31,s32,s33,s34,s35,s36,.slice (some ⟨ad,off,none⟩) bl.length ce,.int .i64 (bl.length : Int),.int .i64 (i : Int),s40,s41,s42,s43,s44,s45,s46,.slice D cl.length de,.int .i64 (cl.length : Int),.int .i64 (j : Int),s50,s51,s52,s53,s54,s55,s56,s57,s58,s59,s60,s61,s62,s63,s64,s65,s66,s67,s68,s69,s70,s71,s72,s73,s74,s75,s76,s77,s78,s79,s80,s81,s82,s83,s84,s85,s86,s87,s88,s89,s90,s91,s92,s93,s94,s95,s96,s97,s98,s99,s100,s101,s102,s103,s104,s105,s106,s107,s108,s109,s110,s111,s112,s113,s114,s115,s116,s117,s118,s119,s120,s121,s122,s123,s124,s125,s126,s127],defers := [] }) → Φ a) (cl.length) ?_ ?_
   ·refine fun Φ hΦ=>hΦ _ _ _ _ _ _ _ _ _ _ _ _ _ _ _ _ _ _ _ _ _ _ _ _ _ _ _ _ _ _ _ _ _ _ _ _ _ _ _ _ _ _ _ _ _ _ _ _ _ _ _ _ _ _ _ _ _ _ _ _ _ _ _ _ _ _ _ _ _ _ _ _ _ _ _ _ _ _ _ _ _ _ _ _ _ _ _ _ _ _ _ _ _ _ _ _ _ _ _ _ _ _ _ _ _ _ _ _ _ _ _ _ _ _ _ (0) (g.fork) (none) ?_
    exact ⟨by omega,HFO.out,HFF.out,HB6.out⟩
   ·intro k2 a2 wr2 hI2 J2 K2 hJ2 hK2
    refine hI2 (fun a=>Code.wp _ _ _ a _) ?_
    clear hI2 a2
    intro s0 s1 s2 s3 s4 s5 s6 s7 s8 s9 s10 s11 s12 s13 s14 s15 s16 s17 s18 s19 s20 s21 s22 s23 s24 s25 s26 s27 s28 s29 s30 s31 s32 s33 s34 s35 s36 s37 s38 s39 s40 s41 s42 s43 s44 s45 s46 s47 s48 s49 s50 s51 s52 s53 s54 s55 s56 s57 s58 s59 s60 s61 s62 s63 s64 s65 s66 s67 s68 s69 s70 s71 s72 s73 s74 s75 s76 s77 s78 s79 s80 s81 s82 s83 s84 s85 s86 s87 s88 s89 s90 s91 s92 s93 s94 s95 s96 s97 s98 s99 s100 s101 s102 s103 s104 s105 s106 s107 s108 s109 s110 s111 s112 s113 s114 j gf o hrel
    show Code.wp _ _ _ _ _
    obtain ⟨h1,hfo,hf,hb⟩:=hrel
    by_cases hj : j < cl.length
    ·have hbw2 : Below w.heap.size w wr2:=F3.out.b.trans ((HB5.out.nxt hb).mono F3.out.b.size)
     obtain ⟨ad2,off2,hD,hbl2,hcell2⟩:=flat_cells b2cell_len (by decide) HCl.out.r hj
     subst hD
     have r0 : wr2.cell? ⟨ad2,off2 + j * 3,none⟩ = some (.int .i64 cl[j].1):=hcell2 _ hbw2 0 _ rfl
     have r1 : wr2.cell? ⟨ad2,off2 + j * 3 + 1,none⟩ = some (.int .i64 cl[j].2.1):=hcell2 _ hbw2 1 _ rfl
     have r2 : wr2.cell? ⟨ad2,off2 + j * 3 + 2,none⟩ = some (.slice cl[j].2.2.2.1 cl[j].2.2.1.length cl[j].2.2.2.2):=hcell2 _ hbw2 2 _ rfl
     have hj1 : (j : Int) < cl.length:=by omega
     have hj0 : (0 : Int) ≤ j:=by omega
     have hwj : IntKind.i64.wrap ((j : Int) + 1) = (j : Int) + 1:=IntWalk.i64_in _ (by have:=HCl.out.n; omega)
     have HTx2:=Lib.hid ((HCl.out.next hbw2).t _ (List.getElem_mem hj))
     have HJ:=Lib.hid (And.intro h1 (And.intro hj (And.intro hf (And.intro hb hfo))))
     obtain ⟨m,hm⟩:=hfo.toLgRd.pos
     have hfew : ∀ e ∈ gf.L,Trie.count e.st ≤ 900:=fun e he=>by have h5:=hf e he; have h6:=H12b.out; omega
     have hm2 : gf.L.length = m + 1:=by rw [List.length_map,hm]
     have HAx:=Lib.hid (fun W (hW : Below wr2.heap.size wr2 W)=>led_AddX W W5.heap.size fb gf o (hfo.next hW) (HTb.out.next (hbw2.nxt hW)) hfew m hm2 (gf.L[m]'(by omega)) (List.getElem?_eq_getElem (by omega)) cl[j].2.1 cl[j].2.2.1 cl[j].2.2.2.1 cl[j].2.2.2.2 (HTx2.out.next hW))
     clear hcell2 hbl2 h1 hf hb hfo hbw2 hfew
     generalize cl[j] = bk2 at *
     obtain ⟨kd2,vw2,L2,tA2,tc2⟩:=bk2
     simp only at r0 r1 r2 HTx2 HAx
     clear hj
     go_upto_region 16 with fail
     have F:=Live.ha (Lib.hid (Live.start wr2)) #[.int .i64 kd2,.int .i64 vw2,.slice tA2 L2.length tc2] 94
     generalize wr2.alloc (.cells #[.int .i64 kd2,.int .i64 vw2,.slice tA2 L2.length tc2] 94) = W7 at F ⊢
     generalize wr2.heap.size = zb at F ⊢
     clear r0 r1 r2
     have r1 : W7.cell? ⟨zb,1,none⟩ = some (.int .i64 vw2):=F.out.cell 0 1 rfl rfl
     have r2 : W7.cell? ⟨zb,2,none⟩ = some (.slice tA2 L2.length tc2):=F.out.cell 0 2 rfl rfl
     have HA7:=Lib.hid (HAx.out _ F.out.b)
     have HO7:=Lib.hid (HJ.out.2.2.2.2.next F.out.b)
     have HB7:=Lib.hid (HJ.out.2.2.2.1.nxt F.out.b)
     clear HAx F
     go_wp2_with fail
     refine HA7.out.mono ?_
     rintro e W8 ⟨hd,kA,kc,g',o',_,rfl,hO,hfm,_,_,hL⟩
     have HN8:=Lib.hid (And.intro hO (And.intro hL (HB7.out.trans (hfm.below HO7.out.lo (fun k hk=>(HO7.out.lt k hk).1) HO7.out.from))))
     clear hO hfm hL HA7 r1 r2
     go_wp2_with fail
     refine Handed.intro (cl.length - (j + 1)) ?_ (hJ2 _ _ _ (fun Φ hΦ=>hΦ _ _ _ _ _ _ _ _ _ _ _ _ _ _ _ _ _ _ _ _ _ _ _ _ _ _ _ _ _ _ _ _ _ _ _ _ _ _ _ _ _ _ _ _ _ _ _ _ _ _ _ _ _ _ _ _ _ _ _ _ _ _ _ _ _ _ _ _ _ _ _ _ _ _ _ _ _ _ _ _ _ _ _ _ _ _ _ _ _ _ _ _ _ _ _ _ _ _ _ _ _ _ _ _ _ _ _ _ _ _ _ _ _ _ _ (j + 1) (g') (o') ?_))
     ·have:=HJ.out.1; have:=HJ.out.2.1; omega
     have h5:=Led.addW_few HO7.out.wf HJ.out.2.2.1 (by have:=H12b.out; have:=HJ.out.2.1; omega) vw2 (L2.map (·.1))
     exact ⟨by have:=HJ.out.1; have:=HJ.out.2.1; omega,HN8.out.1,by rw [HN8.out.2.1]; exact h5.mono (by omega),HN8.out.2.2⟩
    ·have hj1 : ((j : Int) < cl.length) = False:=by simp; omega
     have HB7:=Lib.hid hb
     have HG7:=Lib.hid (HG5.out.next hb)
     clear hj h1 hfo hf hb
     go_wp2_with fail
     refine (led_Fork wr2 w3.heap.size lb g HG7.out).mono ?_
     rintro e W8 ⟨f2,rfl,hb8,hf2⟩
     have HB8:=Lib.hid hb8
     have HO8:=Lib.hid hf2
     clear hb8 hf2
     go_wp2_with fail
     refine (HHt.out _ (HB7.out.nxt HB8.out)).mono ?_
     rintro e wz ⟨rfl,rfl⟩
     have k8:=BT.out W8 (HB7.out.nxt HB8.out)
     have r1 : W8.cell? ⟨tb,1,none⟩ = some (.int .i64 vw):=k8.cell 1
     have r2 : W8.cell? ⟨tb,2,none⟩ = some (.slice tA L.length tc):=k8.cell 2
     clear k8
     have HW8:=Lib.hid (HB7.out.nxt HB8.out)
     have HL2 : g.L.length = n + 1:=by rw [List.length_map,HN.out]
     obtain ⟨p,hp⟩ : ∃ p,g.es[n]'(by rw [HN.out]; omega) = p:=⟨_,rfl⟩
     have hq2 : g.L[n]? = some p.en:=by rw [List.getElem?_map,List.getElem?_eq_getElem (by rw [HN.out]; omega),hp]; rfl
     have hfew : ∀ e ∈ g.L,Trie.count e.st ≤ 900:=fun e he=>by have h5:=HI.out.2.2.1 e he; have h6:=H12.out; have h7:=HI.out.2.1; omega
     have hsk : (Led.headO g.L p.en vw (L.map (·.1))).sk.length ≤ 1048576:=by
      unfold Led.headO
      by_cases hc : Led.makeC p.en vw (L.map (·.1)) = 0
      ·rw [if_pos hc]
       have wf:=Led.addW_wf HG7.out.wf vw (L.map (·.1))
       rw [Led.add_ok HL2 hq2 hc] at wf
       have h5:=(wf.one g.L.length (by simp)).ok.sk_le
       rw [List.getElem_append_right (Nat.le_refl _)] at h5
       simp only [Nat.sub_self,List.getElem_cons_zero] at h5
       omega
      ·rw [if_neg hc]
       simp [zeroHd]
     have HAX:=Lib.hid (led_AddX W8 wr2.heap.size f2 g.fork none HO8.out (HTb.out.next (F3.out.b.trans ((HB5.out.nxt HW8.out).mono F3.out.b.size))) hfew n HL2 p.en hq2 vw L tA tc (HTx5.out.next HW8.out))
     have HA2:=Lib.hid (fun W (hW : Below wr2.heap.size wr2 W)=>led_Add W w3.heap.size lb g (HG7.out.next hW) (HTb.out.next (F3.out.b.trans ((HB5.out.nxt (HB7.out.nxt hW)).mono F3.out.b.size))) hfew n HN.out p hp vw L tA tc (HTx5.out.next (HB7.out.nxt hW)))
     have HAD : Hid (∀ g2 : LgM,(Led.makeC p.en vw (L.map (·.1)) = 0 → g2.L = g.L ++ [Led.makeE g.L p.en vw (L.map (·.1))]) → (Led.makeC p.en vw (L.map (·.1)) ≠ 0 → g2.L = g.L) → g2.L = (Led.addW g.L vw (L.map (·.1))).1):=Lib.hid (fun g2 h1 h2=>add_L HL2 hq2 h1 h2)
     have HSK:=Lib.hid hsk
     have hlo8 : lb < wr2.heap.size:=HG7.out.blk.lt
     have hlb8 : ∀ b,wr2.heap.size ≤ b → b ≠ lb ∧ some b ≠ g.al.ownBlock:=fun b hb=>⟨by omega,fun e=>by have:=(HG7.out.from.2 b e.symm).2; omega⟩
     have HLB:=Lib.hid hlb8
     clear hlb8 hlo8 hsk hfew hp hq2 HL2
     go_wp2_with fail
     refine HAX.out.mono ?_
     rintro e W9 ⟨hd,kA,kc,gf2,o2,hhd,rfl,hO9,hfm9,hr9,hfr9,hL9⟩
     have HB9 : Hid (Below wr2.heap.size wr2 W9):=Lib.hid (HB8.out.trans (hfm9.below HO8.out.lo (fun k hk=>by cases hk) HO8.out.from))
     have H9:=Lib.hid (And.intro hhd (And.intro hO9 (And.intro hr9 (And.intro hL9 (And.intro HO8.out.lo (fun a (ha : kA = some a)=>Nat.le_trans HB8.out.size (hfr9 a ha)))))))
     clear hhd hO9 hfm9 hr9 hfr9 hL9 r1 r2 HAX
     go_upto_region 22 with fail
     have F:=Live.ha (Lib.hid (Live.start W9)) #[.int .i64 hd.hgt,.int .i64 hd.epo,.int .i64 hd.vw,.bool hd.last,.string ⟨hd.par.toArray⟩,.string ⟨hd.st.toArray⟩,.string ⟨hd.rc.toArray⟩,.string ⟨hd.tx.toArray⟩,.string ⟨hd.mem.toArray⟩,.string ⟨hd.nxt.toArray⟩,.slice kA hd.sk.length kc] 65
     generalize W9.alloc (.cells #[.int .i64 hd.hgt,.int .i64 hd.epo,.int .i64 hd.vw,.bool hd.last,.string ⟨hd.par.toArray⟩,.string ⟨hd.st.toArray⟩,.string ⟨hd.rc.toArray⟩,.string ⟨hd.tx.toArray⟩,.string ⟨hd.mem.toArray⟩,.string ⟨hd.nxt.toArray⟩,.slice kA hd.sk.length kc] 65) = W10 at F ⊢
     have HB10:=Lib.hid (HB9.out.nxt F.out.b)
     have HLA : Hid (wr2.heap.size ≤ W9.heap.size):=Lib.hid HB9.out.size
     have R10:=Lib.hid ((H9.out.2.2.1.below F.out.b).more F.out.b.size)
     have B10:=Lib.hid (H9.out.2.1.blk.below F.out.b H9.out.2.1.blk.lt)
     generalize W9.heap.size = ha at F HLA ⊢
     have k8:=BT.out W10 (HB7.out.nxt HB10.out)
     have r1 : W10.cell? ⟨tb,1,none⟩ = some (.int .i64 vw):=k8.cell 1
     have r2 : W10.cell? ⟨tb,2,none⟩ = some (.slice tA L.length tc):=k8.cell 2
     clear k8
     go_wp2_with fail
     refine (HA2.out _ HB10.out).mono ?_
     rintro e W11 ⟨hd2,kB,kd2,g2,rfl,hg2,hfm2,hr2,hy,hn2⟩
     have hh : hd2 = hd:=by
      rw [H9.out.1]
      unfold Led.headO
      by_cases hc : Led.makeC p.en vw (L.map (·.1)) = 0
      ·rw [if_pos hc]; exact (hy hc).2
      ·rw [if_neg hc]; exact (hn2 hc).2
     have hL2:=HAD.out g2 (fun h=>(hy h).1) (fun h=>by rw [(hn2 h).1])
     rw [hh] at hr2 ⊢
     have hln : gf2.es.length = g2.es.length:=by
      have h5 : gf2.L.length = g2.L.length:=by rw [H9.out.2.2.2.1,hL2]; rfl
      rwa [List.length_map,List.length_map] at h5
     have HR11:=Lib.hid (hfm2.reads R10.out (fun a ha=>HLB.out _ (H9.out.2.2.2.2.2 a ha)))
     have HF11:=Lib.hid (hfm2.blk B10.out (HLB.out _ H9.out.2.2.2.2.1).1 (HLB.out _ H9.out.2.2.2.2.1).2)
     have HA11:=Lib.hid (hfm2.blk (F.out.blk 0 rfl) (HLB.out _ HLA.out).1 (HLB.out _ HLA.out).2)
     have HG10:=Lib.hid (HG7.out.next HB10.out)
     have HB11 : Hid (Below w3.heap.size w3 W11):=Lib.hid ((HB5.out.nxt (HB7.out.nxt HB10.out)).trans ((hfm2.below HG10.out.lo (fun k hk=>(HG10.out.from.2 k hk).1) HG10.out.from.1)))
     have HSK2 : Hid (hd.sk.length ≤ 1048576):=Lib.hid (by rw [H9.out.1]; exact HSK.out)
     have HG11:=Lib.hid (And.intro hg2 (And.intro hL2 (And.intro hr2 hln)))
     clear hh hL2 hr2 hy hn2 hg2 hfm2 hln F r1 r2 HA2 HAD H9 R10 B10 HG10 HLB HSK HB9
     go_upto_region 23 with fail
     have F:=Live.ha (Lib.hid (Live.start W11)) #[.int .i64 hd.hgt,.int .i64 hd.epo,.int .i64 hd.vw,.bool hd.last,.string ⟨hd.par.toArray⟩,.string ⟨hd.st.toArray⟩,.string ⟨hd.rc.toArray⟩,.string ⟨hd.tx.toArray⟩,.string ⟨hd.mem.toArray⟩,.string ⟨hd.nxt.toArray⟩,.slice kB hd.sk.length kd2] 65
     generalize W11.alloc (.cells #[.int .i64 hd.hgt,.int .i64 hd.epo,.int .i64 hd.vw,.bool hd.last,.string ⟨hd.par.toArray⟩,.string ⟨hd.st.toArray⟩,.string ⟨hd.rc.toArray⟩,.string ⟨hd.tx.toArray⟩,.string ⟨hd.mem.toArray⟩,.string ⟨hd.nxt.toArray⟩,.slice kB hd.sk.length kd2] 65) = W12 at F ⊢
     have RA : W12.rangeAt ha 0 [.int .i64 hd.hgt,.int .i64 hd.epo,.int .i64 hd.vw,.bool hd.last,.string ⟨hd.par.toArray⟩,.string ⟨hd.st.toArray⟩,.string ⟨hd.rc.toArray⟩,.string ⟨hd.tx.toArray⟩,.string ⟨hd.mem.toArray⟩,.string ⟨hd.nxt.toArray⟩,.slice kA hd.sk.length kc]:=range_of_blk (HA11.out.below F.out.b HA11.out.lt)
     have HR12:=Lib.hid ((HR11.out.below F.out.b).more F.out.b.size)
     have HR12b:=Lib.hid ((HG11.out.2.2.1.below F.out.b).more F.out.b.size)
     have HF12:=Lib.hid (HF11.out.below F.out.b HF11.out.lt)
     have HG12:=Lib.hid (HG11.out.1.next F.out.b)
     have HB12:=Lib.hid (HB11.out.nxt F.out.b)
     generalize W11.heap.size = hb at F ⊢
     have RB : W12.rangeAt hb 0 [.int .i64 hd.hgt,.int .i64 hd.epo,.int .i64 hd.vw,.bool hd.last,.string ⟨hd.par.toArray⟩,.string ⟨hd.st.toArray⟩,.string ⟨hd.rc.toArray⟩,.string ⟨hd.tx.toArray⟩,.string ⟨hd.mem.toArray⟩,.string ⟨hd.nxt.toArray⟩,.slice kB hd.sk.length kd2]:=range_of_blk (F.out.blk 0 rfl)
     have hcc : ((Led.makeC p.en vw (L.map (·.1)) : Int) != (Led.makeC p.en vw (L.map (·.1)) : Int)) = false:=by simp
     generalize (Led.makeC p.en vw (L.map (·.1)) : Int) = cdd at hcc ⊢
     go_wp2_with (first | ((with_reducible refine at_load 88 ?_); refine load_want20 (by rfl) 65 _ rfl ha 0 rfl [.int .i64 hd.hgt,.int .i64 hd.epo,.int .i64 hd.vw,.bool hd.last,.string ⟨hd.par.toArray⟩,.string ⟨hd.st.toArray⟩,.string ⟨hd.rc.toArray⟩,.string ⟨hd.tx.toArray⟩,.string ⟨hd.mem.toArray⟩,.string ⟨hd.nxt.toArray⟩,.slice kA hd.sk.length kc] _ RA Tryz.underlying65 rfl SZH.out ?_) | ((with_reducible refine at_load 89 ?_); refine load_want20 (by rfl) 65 _ rfl hb 0 rfl [.int .i64 hd.hgt,.int .i64 hd.epo,.int .i64 hd.vw,.bool hd.last,.string ⟨hd.par.toArray⟩,.string ⟨hd.st.toArray⟩,.string ⟨hd.rc.toArray⟩,.string ⟨hd.tx.toArray⟩,.string ⟨hd.mem.toArray⟩,.string ⟨hd.nxt.toArray⟩,.slice kB hd.sk.length kd2] _ RB Tryz.underlying65 rfl SZH.out ?_))
     refine (book_SameHeader_eq20 W12 hd kA kB kc kd2 HR12.out HR12b.out HSK2.out).mono ?_
     rintro e W13 ⟨rfl,hb13⟩
     have F13:=Live.hb F hb13
     have HB13:=Lib.hid (HB12.out.nxt hb13)
     have HG13:=Lib.hid (HG12.out.next hb13)
     have hl2 : g2.es.length ≤ 1048577:=by have:=HG13.out.wf.le; rw [List.length_map] at this; exact this
     have HHf:=Lib.hid (lg_HeightB W13 f2 gf2 (HF12.out.below hb13 HF12.out.lt) (by rw [HG11.out.2.2.2]; exact hl2))
     rw [HG11.out.2.2.2] at HHf
     have HHg:=Lib.hid (lg_Height W13 lb g2 HG13.out.toLgRd)
     clear hb13 hl2 RA RB
     generalize (g2.es.length : Int) - 1 = hgt at HHf HHg
     go_wp2_with fail
     refine HHf.out.mono ?_
     rintro e wz ⟨rfl,rfl⟩
     go_wp2_with fail
     refine HHg.out.mono ?_
     rintro e wz ⟨rfl,rfl⟩
     go_wp2_with fail
     refine Handed.intro (bl.length - (i + 1)) ?_ (hJ1 _ _ _ (fun Φ hΦ=>hΦ _ _ _ _ _ _ _ _ _ _ _ _ _ _ _ _ _ _ _ _ _ _ _ _ _ _ _ _ _ _ _ _ _ _ _ _ _ _ _ _ _ _ _ _ _ _ _ _ _ _ _ _ _ _ _ _ _ _ _ _ _ _ _ _ _ _ _ _ _ _ _ _ _ _ _ _ _ _ _ _ _ _ _ _ _ _ _ _ _ _ _ _ _ _ _ _ _ _ _ _ _ _ _ _ _ _ _ _ _ _ _ _ _ _ _ _ _ _ _ _ _ (i + 1) (g2) ?_))
     ·have:=HI.out.1; have:=HI.out.2.1; omega
     have h5:=Led.addW_few HG7.out.wf HI.out.2.2.1 (by have:=H12.out; have:=HI.out.2.1; omega) vw (L.map (·.1))
     exact ⟨by have:=HI.out.1; have:=HI.out.2.1; omega,HG13.out,by rw [HG11.out.2.1,HNx.out]; rfl,by rw [HG11.out.2.1]; exact h5.mono (by omega),HB13.out⟩
  ·have hi1 : ((i : Int) < bl.length) = False:=by simp; omega
   have hil : (bl.take i) = bl:=List.take_of_length_le (by omega)
   rw [hil] at hgL
   have HE:=Lib.hid (And.intro hg (And.intro hgL hb))
   have HBW:=Lib.hid hbw
   have k0 : wr1.cell? ⟨sb,0,none⟩ = some (.slice A l.length c):=((F3.out.blk 0 rfl).below hb (F3.out.blk 0 rfl).lt).cell 0
   have k1 : wr1.cell? ⟨sb,1,none⟩ = some (.slice B set.length d):=((F3.out.blk 0 rfl).below hb (F3.out.blk 0 rfl).lt).cell 1
   clear h1 hg hgL hf hb hi hil hbw
   go_wp2_with fail
   refine (HGr2.out _ HBW.out).mono ?_
   rintro e W5 ⟨v,rfl,hb5,hok,_⟩
   obtain ⟨lb2,g2,rfl,hg2,hL2⟩:=hok HC.out
   have HG5:=Lib.hid (HE.out.1.next hb5)
   have HG52:=Lib.hid hg2
   have HLL : Hid (g.L = g2.L):=Lib.hid (by rw [hL2]; exact HE.out.2.1)
   obtain ⟨n,hn⟩:=HG5.out.pos
   have hn2 : g2.es.length = n + 1:=by have h5:=congrArg List.length HLL.out; rw [List.length_map,List.length_map,hn] at h5; exact h5.symm
   have HHg:=Lib.hid (lg_Height W5 lb g HG5.out.toLgRd)
   have HHf:=Lib.hid (lg_Height W5 lb2 g2 HG52.out.toLgRd)
   rw [hn,show ((n + 1 : Nat) : Int) - 1 = (n : Int) from by omega] at HHg
   rw [hn2,show ((n + 1 : Nat) : Int) - 1 = (n : Int) from by omega] at HHf
   obtain ⟨p,hp⟩ : ∃ p,g.es[n]'(by omega) = p:=⟨_,rfl⟩
   obtain ⟨p2,hp2⟩ : ∃ p,g2.es[n]'(by omega) = p:=⟨_,rfl⟩
   have hpp : p.en = p2.en:=by
    have h5 : g.L[n]? = g2.L[n]?:=by rw [HLL.out]
    rw [List.getElem?_map,List.getElem?_map,List.getElem?_eq_getElem (by omega),List.getElem?_eq_getElem (by omega),hp,hp2] at h5
    exact Option.some.inj h5
   have HSg:=Lib.hid (lg_Sum W5 lb g HG5.out.toLgRd n (by omega) p hp)
   have HSf:=Lib.hid (fun W (hW : Below W5.heap.size W5 W)=>lg_Sum W lb2 g2 (HG52.out.next hW).toLgRd n (by omega) p2 hp2)
   rw [hpp] at HSg
   have HHg2:=Lib.hid (fun W (hW : Below W5.heap.size W5 W)=>lg_Height W lb g (HG5.out.next hW).toLgRd)
   rw [hn,show ((n + 1 : Nat) : Int) - 1 = (n : Int) from by omega] at HHg2
   have HHf2:=Lib.hid (fun W (hW : Below W5.heap.size W5 W)=>lg_Height W lb2 g2 (HG52.out.next hW).toLgRd)
   rw [hn2,show ((n + 1 : Nat) : Int) - 1 = (n : Int) from by omega] at HHf2
   have HB5:=Lib.hid (HBW.out.nxt hb5)
   generalize p2.en.sum = sm at HSg HSf
   clear hok hg2 hL2 hn hn2 hp hp2 hpp hb5 k0 k1
   have F:=Lib.hid (Live.start W5)
   go_wp2_with fail
   refine HHg.out.mono ?_
   rintro e wz ⟨rfl,rfl⟩
   go_wp2_with fail
   refine HSg.out.mono ?_
   rintro e W6 ⟨rfl,hb6⟩
   have F:=Live.hb F hb6
   clear hb6
   go_wp2_with fail
   refine (HHf2.out _ F.out.b).mono ?_
   rintro e wz ⟨rfl,rfl⟩
   go_wp2_with fail
   refine (HSf.out _ F.out.b).mono ?_
   rintro e W7 ⟨rfl,hb7⟩
   have F:=Live.hb F hb7
   clear hb7
   go_wp2_with fail
   refine (HHg2.out _ F.out.b).mono ?_
   rintro e wz ⟨rfl,rfl⟩
   go_wp2_with fail
   refine (HHf2.out _ F.out.b).mono ?_
   rintro e wz ⟨rfl,rfl⟩
   go_wp2_with fail
   exact HP.out _ (HB5.out.nxt F.out.b)
end Go.Proofs.YtnelhjfjkkdoaaaGreatDoor
