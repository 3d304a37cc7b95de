import Derived.Test.YtnelhjfjkkdoaaaGreatDoorJ41
import Derived.Test.YtnelhjfjkkdoaaaGreatDoorJ36
import Derived.Test.YtnelhjfjkkdoaaaGreatDoorJ32
set_option linter.unusedSimpArgs false
set_option linter.unusedVariables false
namespace Go.Proofs.YtnelhjfjkkdoaaaGreatDoor
open Go.RowKit Go.Instr
attribute [local go_sem] ba_get ByteArray.mk_append_mk
attribute [local go_sem ↓] Go.wp_at_zero Go.wp_at_succ
structure S20At (w : World) (A : Option Addr) (l : List Ex.Ac) (B : Option Addr) (set : List Pw.Mem) : Prop where
 a : Reads w w.heap.size 3 A l.length (acells l)
 s : Reads w w.heap.size 2 B set.length (mcells set)
 xs : ∀ x ∈ l,x.1.length ≤ 9223372036854775807
 ss : ∀ x ∈ set,x.1.length ≤ 9223372036854775807
 al : l.length ≤ 9223372036854775807
theorem mems_le {l : List Pw.Mem} (h : Pw.okM l = true) : ∀ m ∈ l,m.1.length ≤ 9223372036854775807:=fun m hm=>by have:=(Pw.okM_all h m hm).1; omega
theorem S20At.next {w w' : World} {A B : Option Addr} {l : List Ex.Ac} {set : List Pw.Mem} (h : S20At w A l B set) (hb : Below w.heap.size w w') : S20At w' A l B set :=
 ⟨(h.a.below hb).more hb.size,(h.s.below hb).more hb.size,h.xs,h.ss,h.al⟩
set_option maxRecDepth 100000 in
set_option maxHeartbeats 4000000 in
theorem law_LedgerEpochs (w : World) (A : Option Addr) (c : Nat) (l : List Ex.Ac) (B : Option Addr) (d : Nat) (set : List Pw.Mem) (h : S20At w A l B set) (C : Option Addr) (ce : Nat) (bl : List B20) (HB : B20At w C bl) (hT : Tbl w) :
  Calls Tryz.prog 5 #[.agg #[.slice A l.length c,.slice B set.length d],.slice C bl.length ce] w fun e w'=>e = .returned (.bool true) ∧ Below w.heap.size w w':=by
 have HP : Hid (∀ w',Below w.heap.size w w' → (fun e w'=>e = Ending.returned (.bool true) ∧ Below w.heap.size w w') (Ending.returned (.bool true)) w'):=Lib.hid (fun W' a2=>⟨rfl,a2⟩)
 generalize (fun e w'=>e = Ending.returned (.bool true) ∧ Below w.heap.size w w') = P at HP ⊢
 have HTb:=Lib.hid hT
 have HBg:=Lib.hid (fun W (hW : Below w.heap.size w W)=>law20_big W l h.xs h.al A c (h.next hW).a set B d bl C ce (HB.next hW))
 have HGr:=Lib.hid (fun (h12 : bl.length ≤ 12) W (hW : Below w.heap.size w W)=>law20_grown W l h.xs A c (h.next hW).a set h.ss B d (h.next hW).s (hT.next hW) bl C ce (HB.next hW) h12)
 unfold Grown20End at HGr
 generalize Ex.genW l set = gw at *
 obtain ⟨t0,cd⟩:=gw
 simp only at HGr
 clear h HB hT
 go_enter Tryz.func5,Tryz.ntmps5
 go_upto_region 1 with fail
 have F0:=Live.ha (Lib.hid (Live.start w)) #[.slice A l.length c,.slice B set.length d] 85
 generalize w.alloc (.cells #[.slice A l.length c,.slice B set.length d] 85) = W0 at F0 ⊢
 generalize w.heap.size = sb at F0 ⊢
 go_wp2_with fail
 refine (law20_works _ (HTb.out.next F0.out.b)).mono ?_
 rintro e w1 ⟨rfl,hb⟩
 have F1:=Live.hb F0 hb
 clear hb F0
 have k0 : w1.cell? ⟨sb,0,none⟩ = some (.slice A l.length c):=F1.out.cell 0 0 rfl rfl
 have k1 : w1.cell? ⟨sb,1,none⟩ = some (.slice B set.length d):=F1.out.cell 0 1 rfl rfl
 go_wp2_with fail
 refine (HBg.out _ F1.out.b).mono ?_
 rintro e w2 ⟨bg,rfl,hb,h12⟩
 have F2:=Live.hb F1 hb
 clear hb F1 k0 k1 HBg
 cases bg with
 | true =>
  clear h12
  go_wp2_with fail
  exact HP.out _ F2.out.b
 | false =>
 have HGr2:=Lib.hid (HGr.out (h12 rfl))
 clear HGr h12
 have k0 : w2.cell? ⟨sb,0,none⟩ = some (.slice A l.length c):=F2.out.cell 0 0 rfl rfl
 have k1 : w2.cell? ⟨sb,1,none⟩ = some (.slice B set.length d):=F2.out.cell 0 1 rfl rfl
 go_wp2_with fail
 refine (HGr2.out _ F2.out.b).mono ?_
 rintro e w3 ⟨v,rfl,hb,hok,hno⟩
 have F3:=Live.hb F2 hb
 clear hb F2 k0 k1 HGr2
 by_cases hc : cd = 0
 rotate_left
 ·obtain rfl:=hno hc
  clear hok hno hc
  go_wp2_with fail
  exact HP.out _ F3.out.b
 obtain ⟨lb,g,rfl,hg,hgL⟩:=hok hc
 clear hok hno
 obtain ⟨n,hn⟩:=hg.pos
 have HG:=Lib.hid hg.toLgRd
 have HN:=Lib.hid hn
 have HHt : Hid (∀ W,Below w3.heap.size w3 W → Calls Tryz.prog 26 #[.pointer (some ⟨lb,0,none⟩)] W fun e w'=>e = .returned (.int .i64 (n : Int)) ∧ W = w'):=Lib.hid (fun W hW=>by
  have:=lg_Height W lb g (HG.out.next hW)
  rw [HN.out,show ((n + 1 : Nat) : Int) - 1 = (n : Int) from by omega] at this
  exact this)
 have HLe:=Lib.hid (show n ≤ 1048577 by have:=HG.out.wf.le; rw [List.length_map] at this; omega)
 clear hg hgL hn hc
 go_wp2_with fail
 refine wp_loop_ghost_k (fun k a wr => ∀ Φ : Act → Prop,(∀ (s0 s1 s2 s3 s4 s7 s8 s9 s10 s11 s12 s13 s14 s15 s16 s17 s18 s19 s20 s21 s22 s23 s24 s25 s26 s27 s28 s29 s30 s31 s32 s33 s34 s35 s36 s37 s38 s39 s40 s41 s42 s43 s44 s45 s46 s47 s48 s49 s50 s51 s52 s53 s54 s55 s56 s57 s58 s59 s60 s61 s62 s63 s64 s65 s66 s67 s68 s69 s70 s71 s72 s73 s74 s75 s76 s77 s78 s79 s80 s81 s82 s83 s84 s85 s86 s87 s88 s89 s90 s91 s92 s93 s94 s95 s96 s97 s98 s99 s100 s101 s102 s103 s104 s105 s106 s107 s108 s109 s110 s111 s112 s113 s114 s115 s116 s117 s118 s119 s120 s121 : Value) (j : Nat),(j + k = n + 1 ∧ 1 ≤ j ∧ Below w3.heap.size w3 wr) → Φ { tmps:=#[s0,s1,s2,s3,s4,.pointer (some ⟨lb,0,none⟩),.int .i64 (j : Int),s7,s8,s9,s10,s11,s12,s13,s14,s15,s16,s17,s18,s19,s20,s21,s22,s23,s24,s25,s26,s27,s28,s29,s30,s31,s32,s33,s34,s35,s36,s37,s38,s39,s40,s41,s42,s43,s44,s45,s46,s47,s48,s49,s50,s51,s52,s53,s54,s55,s56,s57,s58,s59,s60,s61,s62,s63,s64,s65,s66,s67,s68,s69,s70,s71,s72,s73,s74,s75,s76,s77,s78,s79,s80,s81,s82,s83,s84,s85,s86,s87,s88,s89,s90,s91,s92,s93,s94,s95,s96,s97,s98,s99,s100,s101,s102,s103,s104,s105,s106,s107,s108,s109,s110,s111,s112,s113,s114,s115,s116,s117,s118,s119,s120,s121],defers := [] }) → Φ a) (n) ?_ ?_
 ·refine fun Φ hΦ=>hΦ _ _ _ _ _ _ _ _ _ _ _ _ _ _ _ _ _ _ _ _ _ _ _ _ _ _ _ _ _ _ _ _ _ _ _ _ _ _ _ _ _ _ _ _ _ _ _ _ _ _ _ _ _ _ _ _ _ _ _ _ _ _ _ _ _ _ _ _ _ _ _ _ _ _ _ _ _ _ _ _ _ _ _ _ _ _ _ _ _ _ _ _ _ _ _ _ _ _ _ _ _ _ _ _ _ _ _ _ _ _ _ _ _ _ _ _ _ _ _ _ (1) ?_
  exact ⟨by omega,by omega,Below.refl _ _⟩
 ·intro k1 a1 wr1 hI1 J1 K1 hJ1 hK1
  refine hI1 (fun a=>Code.wp _ _ _ a _) ?_
  clear hI1 a1
  intro s0 s1 s2 s3 s4 s5 s6 s7 s8 s9 s10 s11 s12 s13 s14 s15 s16 s17 s18 s19 s20 s21 s22 s23 s24 s25 s26 s27 s28 s29 s30 s31 s32 s33 s34 s35 s36 s37 s38 s39 s40 s41 s42 s43 s44 s45 s46 s47 s48 s49 s50 s51 s52 s53 s54 s55 s56 s57 s58 s59 s60 s61 s62 s63 s64 s65 s66 s67 s68 s69 s70 s71 s72 s73 s74 s75 s76 s77 s78 s79 s80 s81 s82 s83 s84 s85 s86 s87 s88 s89 s90 s91 s92 s93 s94 s95 s96 s97 s98 s99 s100 s101 s102 s103 s104 s105 s106 s107 s108 s109 s110 s111 s112 s113 s114 s115 s116 s117 s118 s119 j hrel
  show Code.wp _ _ _ _ _
  obtain ⟨h1,h2,hb⟩:=hrel
  obtain ⟨i,rfl⟩ : ∃ i,j = i + 1:=⟨j - 1,by omega⟩
  have F:=Lib.hid (Live.start wr1)
  have HB0:=Lib.hid hb
  go_wp2_with fail
  refine (HHt.out _ hb).mono ?_
  rintro e wz ⟨rfl,rfl⟩
  clear hb h2
  have hws : IntKind.i64.wrap (i : Int) = (i : Int):=IntWalk.i64_in _ (by have:=HLe.out; have:=h1; omega)
  have hwi : IntKind.i64.wrap ((i : Int) + 1 + 1) = (i : Int) + 1 + 1:=IntWalk.i64_in _ (by have:=HLe.out; have:=h1; omega)
  have ec2 : ((n + 1 : Nat) : Int) = (n : Int) + 1:=by omega
  have ec : ((i + 1 : Nat) : Int) = (i : Int) + 1:=by omega
  by_cases hi : i < n
  ·have hi1 : (((i + 1 : Nat) : Int) ≤ (n : Int)):=by omega
   have HI:=Lib.hid (And.intro h1 hi)
   have hL1 : i < g.L.length:=by rw [List.length_map,HN.out]; omega
   have hL2 : i + 1 < g.L.length:=by rw [List.length_map,HN.out]; omega
   obtain ⟨p,hp⟩ : ∃ p,g.es[i]'(by rw [HN.out]; omega) = p:=⟨_,rfl⟩
   obtain ⟨q,hq⟩ : ∃ q,g.es[i + 1]'(by rw [HN.out]; omega) = q:=⟨_,rfl⟩
   have HHa:=Lib.hid (fun W (hW : Below wr1.heap.size wr1 W)=>lg_Head W lb g (HG.out.next (HB0.out.nxt hW)) i (by rw [HN.out]; omega) p hp)
   have HHb:=Lib.hid (fun W (hW : Below wr1.heap.size wr1 W)=>lg_Head W lb g (HG.out.next (HB0.out.nxt hW)) (i + 1) (by rw [HN.out]; omega) q hq)
   have HSt:=Lib.hid (fun W (hW : Below wr1.heap.size wr1 W)=>lg_Set W lb g (HG.out.next (HB0.out.nxt hW)) (i + 1) (by rw [HN.out]; omega) q hq)
   rw [ec] at HHb HSt
   have o1 : Led.One p.en i:=by have:=HG.out.wf.one i hL1; rwa [List.getElem_map,hp] at this
   have o2 : Led.One q.en (i + 1):=by have:=HG.out.wf.one (i + 1) hL2; rwa [List.getElem_map,hq] at this
   have t2 : Led.Two p.en q.en:=by have:=HG.out.wf.two i hL2; rwa [List.getElem_map,List.getElem_map,hp,hq] at this
   have HDg : Hid (∀ W SA sc,Below w3.heap.size w3 W → Reads W W.heap.size 2 SA q.en.set.length (mcells q.en.set) → Calls Tryz.prog 38 #[.slice SA q.en.set.length sc] W (Ret W (.string ⟨q.en.hd.mem.toArray⟩))):=Lib.hid (fun W SA sc hW hr=>by
    have:=power_Digest W q.en.set (mems_le o2.set) SA sc hr (HTb.out.next (F3.out.b.trans (hW.mono F3.out.b.size)))
    rwa [o2.dset] at this)
   have HCk : Hid (∀ W kA kc,Reads W W.heap.size 1 kA q.en.hd.sk.length (strv q.en.hd.sk) → Calls Tryz.prog 39 #[.agg #[.int .i64 q.en.hd.hgt,.int .i64 q.en.hd.epo,.int .i64 q.en.hd.vw,.bool q.en.hd.last,.string ⟨q.en.hd.par.toArray⟩,.string ⟨q.en.hd.st.toArray⟩,.string ⟨q.en.hd.rc.toArray⟩,.string ⟨q.en.hd.tx.toArray⟩,.string ⟨q.en.hd.mem.toArray⟩,.string ⟨q.en.hd.nxt.toArray⟩,.slice kA q.en.hd.sk.length kc]] W (Ret W (.int .i64 0))):=Lib.hid (fun W kA kc hr=>by
    have:=hd_Check W q.en.hd (okH_of o2.ok) kA kc hr
    rwa [(Hd.ok_iff _).2 o2.ok,if_pos rfl] at this)
   have HE1:=Lib.hid (And.intro t2.mem (And.intro t2.epo t2.vw))
   have HE2:=Lib.hid (And.intro o1.epo o1.ok.e0)
   clear o1 o2 t2 hp hq hL1 hL2 hi h1 HG HN ec
   generalize p.en.hd = a at *
   generalize q.en.hd = b at *
   generalize q.en.set = sq at *
   clear p q
   go_wp2_with fail
   refine (HHa.out _ F.out.b).mono ?_
   rintro e W4 ⟨kA,kc,rfl,hb4,_⟩
   have F:=Live.hb F hb4
   clear hb4 HHa
   go_upto_region 12 with fail
   have F:=Live.ha F #[.int .i64 a.hgt,.int .i64 a.epo,.int .i64 a.vw,.bool a.last,.string ⟨a.par.toArray⟩,.string ⟨a.st.toArray⟩,.string ⟨a.rc.toArray⟩,.string ⟨a.tx.toArray⟩,.string ⟨a.mem.toArray⟩,.string ⟨a.nxt.toArray⟩,.slice kA a.sk.length kc] 65
   generalize W4.alloc (.cells #[.int .i64 a.hgt,.int .i64 a.epo,.int .i64 a.vw,.bool a.last,.string ⟨a.par.toArray⟩,.string ⟨a.st.toArray⟩,.string ⟨a.rc.toArray⟩,.string ⟨a.tx.toArray⟩,.string ⟨a.mem.toArray⟩,.string ⟨a.nxt.toArray⟩,.slice kA a.sk.length kc] 65) = W5 at F ⊢
   generalize W4.heap.size = ha at F ⊢
   go_wp2_with fail
   refine (HHb.out _ F.out.b).mono ?_
   rintro e W6 ⟨kB,kd,rfl,hb6,hr6⟩
   have F:=Live.hb F hb6
   have HR6:=Lib.hid (fun W (hW : Below W6.heap.size W6 W)=>(hr6.below hW).more hW.size)
   have FX:=Lib.hid (Live.start W6)
   clear hb6 hr6 HHb
   go_upto_region 13 with fail
   have F:=Live.ha F #[.int .i64 b.hgt,.int .i64 b.epo,.int .i64 b.vw,.bool b.last,.string ⟨b.par.toArray⟩,.string ⟨b.st.toArray⟩,.string ⟨b.rc.toArray⟩,.string ⟨b.tx.toArray⟩,.string ⟨b.mem.toArray⟩,.string ⟨b.nxt.toArray⟩,.slice kB b.sk.length kd] 65
   have FX:=Live.ha FX #[.int .i64 b.hgt,.int .i64 b.epo,.int .i64 b.vw,.bool b.last,.string ⟨b.par.toArray⟩,.string ⟨b.st.toArray⟩,.string ⟨b.rc.toArray⟩,.string ⟨b.tx.toArray⟩,.string ⟨b.mem.toArray⟩,.string ⟨b.nxt.toArray⟩,.slice kB b.sk.length kd] 65
   generalize W6.alloc (.cells #[.int .i64 b.hgt,.int .i64 b.epo,.int .i64 b.vw,.bool b.last,.string ⟨b.par.toArray⟩,.string ⟨b.st.toArray⟩,.string ⟨b.rc.toArray⟩,.string ⟨b.tx.toArray⟩,.string ⟨b.mem.toArray⟩,.string ⟨b.nxt.toArray⟩,.slice kB b.sk.length kd] 65) = W7 at F FX ⊢
   have HR7:=Lib.hid (fun W (hW : Below W7.heap.size W7 W)=>HR6.out W (FX.out.b.nxt hW))
   have FX:=Lib.hid (Live.start W7)
   clear HR6
   generalize W6.heap.size = hd at F ⊢
   go_wp2_with fail
   refine (HSt.out _ F.out.b).mono ?_
   rintro e W8 ⟨SA,sc,rfl,hb8,hr8⟩
   have F:=Live.hb F hb8
   have FX:=Live.hb FX hb8
   have HD8:=Lib.hid (fun W (hW : Below W8.heap.size W8 W)=>HDg.out W SA sc ((HB0.out.nxt F.out.b).nxt hW) ((hr8.below hW).more hW.size))
   have HC8:=Lib.hid (fun W (hW : Below W8.heap.size W8 W)=>HCk.out W kB kd (HR7.out W (FX.out.b.nxt hW)))
   have FZ:=Lib.hid (Live.start W8)
   have HS8 : Hid (∀ W,Below W8.heap.size W8 W → W.cell? ⟨ha,2,none⟩ = some (.int .i64 a.vw) ∧ W.cell? ⟨ha,3,none⟩ = some (.bool a.last) ∧ W.cell? ⟨ha,9,none⟩ = some (.string ⟨a.nxt.toArray⟩) ∧ W.cell? ⟨hd,1,none⟩ = some (.int .i64 b.epo) ∧ W.cell? ⟨hd,2,none⟩ = some (.int .i64 b.vw) ∧ W.cell? ⟨hd,8,none⟩ = some (.string ⟨b.mem.toArray⟩) ∧ W.rangeAt hd 0 [.int .i64 b.hgt,.int .i64 b.epo,.int .i64 b.vw,.bool b.last,.string ⟨b.par.toArray⟩,.string ⟨b.st.toArray⟩,.string ⟨b.rc.toArray⟩,.string ⟨b.tx.toArray⟩,.string ⟨b.mem.toArray⟩,.string ⟨b.nxt.toArray⟩,.slice kB b.sk.length kd]):=Lib.hid (fun W hW=>by
    have b1:=(F.out.blk 1 rfl).below hW (F.out.blk 1 rfl).lt
    have b2:=(F.out.blk 0 rfl).below hW (F.out.blk 0 rfl).lt
    exact ⟨b1.cell 2,b1.cell 3,b1.cell 9,b2.cell 1,b2.cell 2,b2.cell 8,range_of_blk b2⟩)
   have k1 : W8.cell? ⟨ha,1,none⟩ = some (.int .i64 a.epo):=F.out.cell 1 1 rfl rfl
   have k3 : W8.cell? ⟨ha,3,none⟩ = some (.bool a.last):=F.out.cell 1 3 rfl rfl
   have SZH : Hid ((Tryz.prog.info? 65).map (·.size) = some 11):=Lib.hid (by kernel_rfl)
   have HF9:=Lib.hid (HB0.out.nxt F.out.b)
   clear hb8 hr8 HSt HDg HCk HR7 FX F
   have hep : IntKind.i64.wrap (a.epo + 1) = a.epo + 1:=IntWalk.i64_in _ (by have:=HE2.out; have:=HLe.out; have:=HI.out; omega)
   have q1:=HE1.out.1
   have q2:=HE1.out.2.1
   have q3:=HE1.out.2.2
   clear HE1
   generalize b.epo = bep at HS8 HC8 q2
   generalize b.mem = bme at HS8 HC8 HD8 q1
   subst q1
   cases hla : a.last with
   | true =>
    rw [hla] at HS8 k3
    rw [hla,if_pos rfl] at q2
    subst q2
    clear q3 hla
    go_upto_region 17 with fail
    refine wp_region_held_drew (S:=fun w'=>w'.cell? ⟨ha,2,none⟩ = some (.int .i64 a.vw) ∧ w'.cell? ⟨ha,3,none⟩ = some (.bool true) ∧ w'.cell? ⟨ha,9,none⟩ = some (.string ⟨a.nxt.toArray⟩) ∧ w'.cell? ⟨hd,1,none⟩ = some (.int .i64 (a.epo + 1)) ∧ w'.cell? ⟨hd,2,none⟩ = some (.int .i64 b.vw) ∧ w'.cell? ⟨hd,8,none⟩ = some (.string ⟨a.nxt.toArray⟩) ∧ w'.rangeAt hd 0 [.int .i64 b.hgt,.int .i64 (a.epo + 1),.int .i64 b.vw,.bool b.last,.string ⟨b.par.toArray⟩,.string ⟨b.st.toArray⟩,.string ⟨b.rc.toArray⟩,.string ⟨b.tx.toArray⟩,.string ⟨a.nxt.toArray⟩,.string ⟨b.nxt.toArray⟩,.slice kB b.sk.length kd]) (by kernel_rfl) (HS8.out _ (live_drew FZ).out.b) (fun hHeld => ?_)
    have F:=live_drew FZ
    generalize W8.drew = Wd at F hHeld ⊢
    try go_frame
    refine tk 0 59 rfl ?_
    try go_frame
    refine tk 1 60 rfl ?_
    try go_frame
    refine tk 2 61 rfl ?_
    try go_frame
    refine tk 3 62 rfl ?_
    try go_frame
    refine tk 4 63 rfl ?_
    try go_frame
    refine tk 5 64 rfl ?_
    try go_frame
    refine tk 6 65 rfl ?_
    try go_frame
    refine tk 7 66 rfl ?_
    try go_frame
    refine tk 8 67 rfl ?_
    try go_frame
    refine tk 9 68 rfl ?_
    try go_frame
    refine tk 10 69 rfl ?_
    try go_frame
    refine tk 12 71 rfl ?_
    try go_frame
    refine tk 13 72 rfl ?_
    try go_frame
    refine rd1 11 rfl (fun K hK => ?_)
    go_simp
    (with_reducible refine (HD8.out _ ?_).mono ?_)
    ·exact F.out.b
    rintro e Wc ⟨rfl,hbc⟩
    have F:=Live.hb F hbc
    clear hbc
    go_simp
    refine hK.out _ _ (HS8.out _ F.out.b) (fun hHeld => ?_)
    clear hK K
    try go_frame
    refine tk 14 73 rfl ?_
    try go_frame
    refine tk 15 74 rfl ?_
    try go_frame
    refine tk 16 75 rfl ?_
    try go_frame
    refine tk 17 76 rfl ?_
    try go_frame
    refine tk 18 77 rfl ?_
    try go_frame
    refine tk 19 78 rfl ?_
    try go_frame
    refine tk 20 79 rfl ?_
    try go_frame
    refine tk 21 80 rfl ?_
    try go_frame
    refine tk 22 81 rfl ?_
    try go_frame
    refine tk 23 82 rfl ?_
    try go_frame
    refine tk 24 83 rfl ?_
    try go_frame
    refine tk 25 84 rfl ?_
    try go_frame
    refine tk 26 85 rfl ?_
    try go_frame
    refine tk 27 86 rfl ?_
    try go_frame
    refine tk 28 87 rfl ?_
    try go_frame
    refine tk 29 88 rfl ?_
    try go_frame
    refine tk 30 89 rfl ?_
    try go_frame
    refine tk 31 90 rfl ?_
    try go_frame
    refine tk 32 91 rfl ?_
    try go_frame
    refine tk 33 92 rfl ?_
    try go_frame
    refine tk 34 93 rfl ?_
    try go_frame
    refine' wpAnyH_take (i:=35) (oi:=⟨some 94,_,_,_,_,_⟩) (v:=_) rfl (by kernel_rfl) (by kernel_rfl) (by kernel_rfl) (fun _ _ _ h=>h) (yieldsIf_load_mid (by rfl) _ _ rfl hd 0 rfl [.int .i64 b.hgt,.int .i64 (a.epo + 1),.int .i64 b.vw,.bool b.last,.string ⟨b.par.toArray⟩,.string ⟨b.st.toArray⟩,.string ⟨b.rc.toArray⟩,.string ⟨b.tx.toArray⟩,.string ⟨a.nxt.toArray⟩,.string ⟨b.nxt.toArray⟩,.slice kB b.sk.length kd] _ (fun w h=>h.2.2.2.2.2.2) Tryz.underlying65 rfl SZH.out) (by assumption) ?_
    try go_frame
    refine rd1 36 rfl (fun K hK => ?_)
    go_simp
    (with_reducible refine (HC8.out _ ?_).mono ?_)
    ·exact F.out.b
    rintro e Wc2 ⟨rfl,hbc⟩
    have F:=Live.hb F hbc
    clear hbc
    go_simp
    refine hK.out _ _ (HS8.out _ F.out.b) (fun hHeld => ?_)
    clear hK K
    try go_frame
    refine tk 37 96 rfl ?_
    try go_frame
    refine tk 38 97 rfl ?_
    try go_frame
    refine wpAnyH_done (by kernel_rfl) ?_ _
    go_wp2_with fail
    refine Handed.intro (n + 1 - (i + 1 + 1)) ?_ (hJ1 _ _ _ (fun Φ hΦ=>hΦ _ _ _ _ _ _ _ _ _ _ _ _ _ _ _ _ _ _ _ _ _ _ _ _ _ _ _ _ _ _ _ _ _ _ _ _ _ _ _ _ _ _ _ _ _ _ _ _ _ _ _ _ _ _ _ _ _ _ _ _ _ _ _ _ _ _ _ _ _ _ _ _ _ _ _ _ _ _ _ _ _ _ _ _ _ _ _ _ _ _ _ _ _ _ _ _ _ _ _ _ _ _ _ _ _ _ _ _ _ _ _ _ _ _ _ _ _ _ _ _ (i + 1 + 1) ?_))
    ·have:=HI.out; omega
    exact ⟨by have:=HI.out; omega,by omega,HF9.out.nxt F.out.b⟩
   | false =>
    rw [hla] at HS8 k3
    rw [hla,if_neg (by simp)] at q2
    subst q2
    have hvw : (b.vw ≤ a.vw) = False:=by simp; exact q3 hla
    clear q3 hla
    go_upto_region 17 with fail
    refine wp_region_held_drew (S:=fun w'=>w'.cell? ⟨ha,2,none⟩ = some (.int .i64 a.vw) ∧ w'.cell? ⟨ha,3,none⟩ = some (.bool false) ∧ w'.cell? ⟨ha,9,none⟩ = some (.string ⟨a.nxt.toArray⟩) ∧ w'.cell? ⟨hd,1,none⟩ = some (.int .i64 a.epo) ∧ w'.cell? ⟨hd,2,none⟩ = some (.int .i64 b.vw) ∧ w'.cell? ⟨hd,8,none⟩ = some (.string ⟨a.nxt.toArray⟩) ∧ w'.rangeAt hd 0 [.int .i64 b.hgt,.int .i64 a.epo,.int .i64 b.vw,.bool b.last,.string ⟨b.par.toArray⟩,.string ⟨b.st.toArray⟩,.string ⟨b.rc.toArray⟩,.string ⟨b.tx.toArray⟩,.string ⟨a.nxt.toArray⟩,.string ⟨b.nxt.toArray⟩,.slice kB b.sk.length kd]) (by kernel_rfl) (HS8.out _ (live_drew FZ).out.b) (fun hHeld => ?_)
    have F:=live_drew FZ
    generalize W8.drew = Wd at F hHeld ⊢
    try go_frame
    refine tk 0 59 rfl ?_
    try go_frame
    refine tk 1 60 rfl ?_
    try go_frame
    refine tk 2 61 rfl ?_
    try go_frame
    refine tk 3 62 rfl ?_
    try go_frame
    refine tk 4 63 rfl ?_
    try go_frame
    refine tk 5 64 rfl ?_
    try go_frame
    refine tk 6 65 rfl ?_
    try go_frame
    refine tk 7 66 rfl ?_
    try go_frame
    refine tk 8 67 rfl ?_
    try go_frame
    refine tk 9 68 rfl ?_
    try go_frame
    refine tk 10 69 rfl ?_
    try go_frame
    refine tk 12 71 rfl ?_
    try go_frame
    refine tk 13 72 rfl ?_
    try go_frame
    refine rd1 11 rfl (fun K hK => ?_)
    go_simp
    (with_reducible refine (HD8.out _ ?_).mono ?_)
    ·exact F.out.b
    rintro e Wc ⟨rfl,hbc⟩
    have F:=Live.hb F hbc
    clear hbc
    go_simp
    refine hK.out _ _ (HS8.out _ F.out.b) (fun hHeld => ?_)
    clear hK K
    try go_frame
    refine tk 14 73 rfl ?_
    try go_frame
    refine tk 15 74 rfl ?_
    try go_frame
    refine tk 16 75 rfl ?_
    try go_frame
    refine tk 17 76 rfl ?_
    try go_frame
    refine tk 18 77 rfl ?_
    try go_frame
    refine tk 19 78 rfl ?_
    try go_frame
    refine tk 20 79 rfl ?_
    try go_frame
    refine tk 21 80 rfl ?_
    try go_frame
    refine tk 22 81 rfl ?_
    try go_frame
    refine tk 23 82 rfl ?_
    try go_frame
    refine tk 24 83 rfl ?_
    try go_frame
    refine tk 25 84 rfl ?_
    try go_frame
    refine tk 26 85 rfl ?_
    try go_frame
    refine tk 27 86 rfl ?_
    try go_frame
    refine tk 28 87 rfl ?_
    try go_frame
    refine tk 29 88 rfl ?_
    try go_frame
    refine tk 30 89 rfl ?_
    try go_frame
    refine tk 31 90 rfl ?_
    try go_frame
    refine tk 32 91 rfl ?_
    try go_frame
    refine tk 33 92 rfl ?_
    try go_frame
    refine tk 34 93 rfl ?_
    try go_frame
    refine' wpAnyH_take (i:=35) (oi:=⟨some 94,_,_,_,_,_⟩) (v:=_) rfl (by kernel_rfl) (by kernel_rfl) (by kernel_rfl) (fun _ _ _ h=>h) (yieldsIf_load_mid (by rfl) _ _ rfl hd 0 rfl [.int .i64 b.hgt,.int .i64 a.epo,.int .i64 b.vw,.bool b.last,.string ⟨b.par.toArray⟩,.string ⟨b.st.toArray⟩,.string ⟨b.rc.toArray⟩,.string ⟨b.tx.toArray⟩,.string ⟨a.nxt.toArray⟩,.string ⟨b.nxt.toArray⟩,.slice kB b.sk.length kd] _ (fun w h=>h.2.2.2.2.2.2) Tryz.underlying65 rfl SZH.out) (by assumption) ?_
    try go_frame
    refine rd1 36 rfl (fun K hK => ?_)
    go_simp
    (with_reducible refine (HC8.out _ ?_).mono ?_)
    ·exact F.out.b
    rintro e Wc2 ⟨rfl,hbc⟩
    have F:=Live.hb F hbc
    clear hbc
    go_simp
    refine hK.out _ _ (HS8.out _ F.out.b) (fun hHeld => ?_)
    clear hK K
    try go_frame
    refine tk 37 96 rfl ?_
    try go_frame
    refine tk 38 97 rfl ?_
    try go_frame
    refine wpAnyH_done (by kernel_rfl) ?_ _
    go_wp2_with fail
    refine Handed.intro (n + 1 - (i + 1 + 1)) ?_ (hJ1 _ _ _ (fun Φ hΦ=>hΦ _ _ _ _ _ _ _ _ _ _ _ _ _ _ _ _ _ _ _ _ _ _ _ _ _ _ _ _ _ _ _ _ _ _ _ _ _ _ _ _ _ _ _ _ _ _ _ _ _ _ _ _ _ _ _ _ _ _ _ _ _ _ _ _ _ _ _ _ _ _ _ _ _ _ _ _ _ _ _ _ _ _ _ _ _ _ _ _ _ _ _ _ _ _ _ _ _ _ _ _ _ _ _ _ _ _ _ _ _ _ _ _ _ _ _ _ _ _ _ _ (i + 1 + 1) ?_))
    ·have:=HI.out; omega
    exact ⟨by have:=HI.out; omega,by omega,HF9.out.nxt F.out.b⟩
  ·have hi1 : ((i : Int) + 1 ≤ (n : Int)) = False:=by simp; omega
   have HL1 : n < g.L.length:=by rw [List.length_map,HN.out]; omega
   obtain ⟨p,hp⟩ : ∃ p,g.es[n]'(by rw [HN.out]; omega) = p:=⟨_,rfl⟩
   have o1 : Led.One p.en n:=by have:=HG.out.wf.one n HL1; rwa [List.getElem_map,hp] at this
   have hnx : g.nx = p.en.nxt:=by
    obtain ⟨x,h1,h2⟩:=HG.out.nx
    rw [List.getLast?_eq_getElem?,List.length_map,HN.out,List.getElem?_map,show n + 1 - 1 = n from rfl,List.getElem?_eq_getElem (by rw [HN.out]; omega),hp] at h1
    have:=Option.some.inj h1
    subst this
    exact h2.symm
   have HSt:=Lib.hid (fun W (hW : Below wr1.heap.size wr1 W)=>lg_Set_next W lb g (HG.out.next (HB0.out.nxt hW)))
   rw [HN.out,hnx,ec2] at HSt
   have HHa:=Lib.hid (fun W (hW : Below wr1.heap.size wr1 W)=>lg_Head W lb g (HG.out.next (HB0.out.nxt hW)) n (by rw [HN.out]; omega) p hp)
   have HDg : Hid (∀ W SA sc,Below w3.heap.size w3 W → Reads W W.heap.size 2 SA p.en.nxt.length (mcells p.en.nxt) → Calls Tryz.prog 38 #[.slice SA p.en.nxt.length sc] W (Ret W (.string ⟨p.en.hd.nxt.toArray⟩))):=Lib.hid (fun W SA sc hW hr=>by
    have:=power_Digest W p.en.nxt (mems_le o1.nxt) SA sc hr (HTb.out.next (F3.out.b.trans (hW.mono F3.out.b.size)))
    rwa [o1.dnxt] at this)
   have hwn : IntKind.i64.wrap ((n : Int) + 1) = (n : Int) + 1:=IntWalk.i64_in _ (by have:=HLe.out; omega)
   clear o1 hnx hp HL1 hi h1 HG HN ec hws hwi
   generalize p.en.hd = a at *
   generalize p.en.nxt = sq at *
   clear p
   go_wp2_with fail
   refine (HHt.out _ (HB0.out.nxt F.out.b)).mono ?_
   rintro e wz ⟨rfl,rfl⟩
   go_wp2_with fail
   refine (HSt.out _ F.out.b).mono ?_
   rintro e W4 ⟨SA,sc,rfl,hb4,hr4⟩
   have F:=Live.hb F hb4
   have HD4:=Lib.hid (fun W (hW : Below W4.heap.size W4 W)=>HDg.out W SA sc ((HB0.out.nxt F.out.b).nxt hW) ((hr4.below hW).more hW.size))
   have FX:=Lib.hid (Live.start W4)
   clear hb4 hr4 HSt HDg
   go_wp2_with fail
   refine (HHt.out _ (HB0.out.nxt F.out.b)).mono ?_
   rintro e wz ⟨rfl,rfl⟩
   go_wp2_with fail
   refine (HHa.out _ F.out.b).mono ?_
   rintro e W6 ⟨kA,kc,rfl,hb6,_⟩
   have F:=Live.hb F hb6
   have FX:=Live.hb FX hb6
   clear hb6 HHa HHt
   go_upto_region 21 with fail
   have F:=Live.ha F #[.int .i64 a.hgt,.int .i64 a.epo,.int .i64 a.vw,.bool a.last,.string ⟨a.par.toArray⟩,.string ⟨a.st.toArray⟩,.string ⟨a.rc.toArray⟩,.string ⟨a.tx.toArray⟩,.string ⟨a.mem.toArray⟩,.string ⟨a.nxt.toArray⟩,.slice kA a.sk.length kc] 65
   have FX:=Live.ha FX #[.int .i64 a.hgt,.int .i64 a.epo,.int .i64 a.vw,.bool a.last,.string ⟨a.par.toArray⟩,.string ⟨a.st.toArray⟩,.string ⟨a.rc.toArray⟩,.string ⟨a.tx.toArray⟩,.string ⟨a.mem.toArray⟩,.string ⟨a.nxt.toArray⟩,.slice kA a.sk.length kc] 65
   generalize W6.alloc (.cells #[.int .i64 a.hgt,.int .i64 a.epo,.int .i64 a.vw,.bool a.last,.string ⟨a.par.toArray⟩,.string ⟨a.st.toArray⟩,.string ⟨a.rc.toArray⟩,.string ⟨a.tx.toArray⟩,.string ⟨a.mem.toArray⟩,.string ⟨a.nxt.toArray⟩,.slice kA a.sk.length kc] 65) = W7 at F FX ⊢
   generalize W6.heap.size = ha at F FX ⊢
   have HD7:=Lib.hid (fun W (hW : Below W7.heap.size W7 W)=>HD4.out W (FX.out.b.nxt hW))
   have HS7 : Hid (∀ W,Below W7.heap.size W7 W → W.cell? ⟨ha,9,none⟩ = some (.string ⟨a.nxt.toArray⟩)):=Lib.hid (fun W hW=>((F.out.blk 0 rfl).below hW (F.out.blk 0 rfl).lt).cell 9)
   have HF7:=Lib.hid (HB0.out.nxt F.out.b)
   clear FX F HD4
   have FZ:=Lib.hid (Live.start W7)
   refine wp_region_held_drew (S:=fun w'=>w'.cell? ⟨ha,9,none⟩ = some (.string ⟨a.nxt.toArray⟩)) (by kernel_rfl) (HS7.out _ (live_drew FZ).out.b) (fun hHeld => ?_)
   have F:=live_drew FZ
   generalize W7.drew = Wd at F hHeld ⊢
   try go_frame
   refine tk 0 113 rfl ?_
   try go_frame
   refine tk 1 114 rfl ?_
   try go_frame
   refine tk 2 115 rfl ?_
   try go_frame
   refine tk 3 116 rfl ?_
   try go_frame
   refine tk 5 118 rfl ?_
   try go_frame
   refine tk 6 119 rfl ?_
   try go_frame
   refine rd1 4 rfl (fun K hK => ?_)
   go_simp
   (with_reducible refine (HD7.out _ ?_).mono ?_)
   ·exact F.out.b
   rintro e Wc ⟨rfl,hbc⟩
   have F:=Live.hb F hbc
   clear hbc
   go_simp
   refine hK.out _ _ (HS7.out _ F.out.b) (fun hHeld => ?_)
   clear hK K
   try go_frame
   refine tk 7 120 rfl ?_
   try go_frame
   refine tk 8 121 rfl ?_
   try go_frame
   refine tk 9 4 rfl ?_
   try go_frame
   refine wpAnyH_done (by kernel_rfl) ?_ _
   go_wp2_with fail
   have hb9:=HF7.out.nxt F.out.b
   exact HP.out _ (F3.out.b.trans (hb9.mono F3.out.b.size))
end Go.Proofs.YtnelhjfjkkdoaaaGreatDoor
