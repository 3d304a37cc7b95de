import Derived.Test.YtnelhjfjkkdoaaaGreatDoorJ41
import Derived.Test.YtnelhjfjkkdoaaaGreatDoorJ42
import Derived.Test.YtnelhjfjkkdoaaaGreatDoorJ31
import Derived.Test.YtnelhjfjkkdoaaaGreatDoorJ32
import Derived.Test.YtnelhjfjkkdoaaaGreatDoorJ30
import Derived.Test.YtnelhjfjkkdoaaaGreatDoorJ33
set_option linter.unusedSimpArgs false
set_option linter.unusedVariables false
namespace Go.Proofs.YtnelhjfjkkdoaaaGreatDoor
open Go.RowKit Go.Instr
attribute [local go_sem] ba_get ByteArray.mk_append_mk
attribute [local go_sem ↓] Go.wp_at_zero Go.wp_at_succ
set_option maxHeartbeats 400000 in
theorem book_Below20 (x : Int) (n : Nat) (w : World) (hn : 1 ≤ n) (hn2 : n ≤ 1048577) :
  Calls Tryz.prog 46 #[.int .i64 x,.int .i64 n] w fun e w' => ∃ k : Nat,k < n ∧ e = .returned (.int .i64 k) ∧ w = w':=by
 have hb1 : x.tmod n < n:=Int.tmod_lt_of_pos x (by omega)
 have hb2 : -(n : Int) < x.tmod n:=by
  have:=Int.tmod_lt_of_pos (-x) (show (0 : Int) < n by omega)
  rw [Int.neg_tmod] at this
  omega
 have q2 : wrap64 (x.tmod n + n) = x.tmod n + n:=IntWalk.wrap64_in _ (by omega)
 obtain ⟨k,hk,hkeq⟩ : ∃ k : Nat,k < n ∧ (wrap64 (x.tmod n + n)).tmod n = (k : Int):=by
  rw [q2]
  have b1:=Int.tmod_lt_of_pos (x.tmod n + n) (show (0 : Int) < n by omega)
  have b2:=Int.tmod_nonneg (n : Int) (show 0 ≤ x.tmod n + n by omega)
  exact ⟨((x.tmod n + n).tmod n).toNat,by omega,by omega⟩
 have HK:=Lib.hid hkeq
 have hq : ((n : Int) == 0) = false:=by rw [beq_eq_false_iff_ne]; omega
 clear hkeq q2 hb1 hb2
 go_enter Tryz.func46,Tryz.ntmps46
 go_wp2
 go_ret
 exact ⟨k,hk,ret_int HK.out,rfl⟩
theorem route_len20 (f : Nat) : ∀ (h low : Nat),(Skip.routeF f h low).length ≤ h:=by
 have keep:=@Skip.route_drop
 induction f with
 | zero=>intro h low; simp [Skip.routeF]
 | succ f ih =>
  intro h low
  by_cases hc : low < h
  ·rw [Skip.routeF_yes hc]
   have:=ih (Skip.next h low) low
   have:=Skip.next_lt h low hc
   simp; omega
  ·rw [Skip.routeF_no hc]; simp
set_option maxRecDepth 100000 in
set_option maxHeartbeats 4000000 in
theorem law_LedgerLinks (w : World) (A : Option Addr) (c : Nat) (l : List Ex.Ac) (B : Option Addr) (d : Nat) (set : List Pw.Mem) (h : S20At w A l B set) (C : Option Addr) (ce : Nat) (bl : List B20) (HB : B20At w C bl) (y z : Int) (hT : Tbl w) :
  Calls Tryz.prog 8 #[.agg #[.slice A l.length c,.slice B set.length d],.slice C bl.length ce,.agg #[.int .i64 y,.int .i64 z]] w fun e w'=>e = .returned (.bool true) ∧ Below w.heap.size w w':=by
 have HP : Hid (∀ w',Below w.heap.size w w' → (fun e w'=>e = Ending.returned (.bool true) ∧ Below w.heap.size w w') (Ending.returned (.bool true)) w'):=Lib.hid (fun W' a2=>⟨rfl,a2⟩)
 generalize (fun e w'=>e = Ending.returned (.bool true) ∧ Below w.heap.size w w') = P at HP ⊢
 have HTb:=Lib.hid hT
 have HBg:=Lib.hid (fun W (hW : Below w.heap.size w W)=>law20_big W l h.xs h.al A c (h.next hW).a set B d bl C ce (HB.next hW))
 have HGr:=Lib.hid (fun (h12 : bl.length ≤ 12) W (hW : Below w.heap.size w W)=>law20_grown W l h.xs A c (h.next hW).a set h.ss B d (h.next hW).s (hT.next hW) bl C ce (HB.next hW) h12)
 unfold Grown20End at HGr
 generalize Ex.genW l set = gw at *
 obtain ⟨t0,cd⟩:=gw
 simp only at HGr
 clear h HB hT
 go_enter Tryz.func8,Tryz.ntmps8
 go_upto_region 1 with fail
 have F0:=Live.ha (Live.ha (Lib.hid (Live.start w)) #[.slice A l.length c,.slice B set.length d] 85) #[.int .i64 y,.int .i64 z] 101
 rw [show (w.alloc (.cells #[.slice A l.length c,.slice B set.length d] 85)).heap.size = w.heap.size + 1 from by show (w.heap.push _).size = _; exact Array.size_push _] at F0
 generalize (w.alloc (.cells #[.slice A l.length c,.slice B set.length d] 85)).alloc (.cells #[.int .i64 y,.int .i64 z] 101) = W0 at F0 ⊢
 generalize w.heap.size + 1 = yb at F0 ⊢
 generalize w.heap.size = sb at F0 ⊢
 go_wp2_with fail
 refine (law20_works _ (HTb.out.next F0.out.b)).mono ?_
 rintro e w1 ⟨rfl,hb⟩
 have F1:=Live.hb F0 hb
 clear hb F0
 have k0 : w1.cell? ⟨sb,0,none⟩ = some (.slice A l.length c):=F1.out.cell 1 0 rfl rfl
 have k1 : w1.cell? ⟨sb,1,none⟩ = some (.slice B set.length d):=F1.out.cell 1 1 rfl rfl
 go_wp2_with fail
 refine (HBg.out _ F1.out.b).mono ?_
 rintro e w2 ⟨bg,rfl,hb,h12⟩
 have F2:=Live.hb F1 hb
 clear hb F1 k0 k1 HBg
 cases bg with
 | true =>
  clear h12
  go_wp2_with fail
  exact HP.out _ F2.out.b
 | false =>
 have HGr2:=Lib.hid (HGr.out (h12 rfl))
 clear HGr h12
 have k0 : w2.cell? ⟨sb,0,none⟩ = some (.slice A l.length c):=F2.out.cell 1 0 rfl rfl
 have k1 : w2.cell? ⟨sb,1,none⟩ = some (.slice B set.length d):=F2.out.cell 1 1 rfl rfl
 go_wp2_with fail
 refine (HGr2.out _ F2.out.b).mono ?_
 rintro e w3 ⟨v,rfl,hb,hok,hno⟩
 have F3:=Live.hb F2 hb
 clear hb F2 k0 k1 HGr2
 by_cases hc : cd = 0
 rotate_left
 ·obtain rfl:=hno hc
  clear hok hno hc
  go_wp2_with fail
  exact HP.out _ F3.out.b
 obtain ⟨lb,g,rfl,hg,hgL⟩:=hok hc
 clear hok hno
 obtain ⟨n,hn⟩:=hg.pos
 have HG:=Lib.hid hg.toLgRd
 have HN:=Lib.hid hn
 have HHt : Hid (∀ W,Below w3.heap.size w3 W → Calls Tryz.prog 26 #[.pointer (some ⟨lb,0,none⟩)] W fun e w'=>e = .returned (.int .i64 (n : Int)) ∧ W = w'):=Lib.hid (fun W hW=>by
  have:=lg_Height W lb g (HG.out.next hW)
  rw [HN.out,show ((n + 1 : Nat) : Int) - 1 = (n : Int) from by omega] at this
  exact this)
 have HLe:=Lib.hid (show n ≤ 1048576 by have:=HG.out.wf.le; rw [List.length_map] at this; omega)
 have hwn : IntKind.i64.wrap ((n : Int) + 1) = (n : Int) + 1:=IntWalk.i64_in _ (by have:=HLe.out; omega)
 have HBw : Hid (∀ (x : Int) W,Calls Tryz.prog 46 #[.int .i64 x,.int .i64 ((n : Int) + 1)] W fun e w' => ∃ k : Nat,k < n + 1 ∧ e = .returned (.int .i64 k) ∧ W = w'):=Lib.hid (fun x W=>book_Below20 x (n + 1) W (by omega) (by have:=HLe.out; omega))
 have HS : Hid (∀ W,Below w3.heap.size w3 W → W.cell? ⟨yb,0,none⟩ = some (.int .i64 y) ∧ W.cell? ⟨yb,1,none⟩ = some (.int .i64 z)):=Lib.hid (fun W hW=>by
  have b:=(F3.out.blk 0 rfl).below hW (F3.out.blk 0 rfl).lt
  exact ⟨b.cell 0,b.cell 1⟩)
 clear hg hgL hn hc
 have FZ:=Lib.hid (Live.start w3)
 go_upto_region 8 with fail
 refine wp_region_noPanic ?_
 refine wp_region_held_drew (S:=fun w'=>w'.cell? ⟨yb,0,none⟩ = some (.int .i64 y) ∧ w'.cell? ⟨yb,1,none⟩ = some (.int .i64 z)) (by kernel_rfl) (HS.out _ (live_drew FZ).out.b) (fun hHeld => ?_)
 have F:=live_drew FZ
 generalize w3.drew = Wd at F hHeld ⊢
 try go_frame
 refine tk 0 35 rfl ?_
 try go_frame
 refine tk 1 36 rfl ?_
 try go_frame
 refine tk 2 37 rfl ?_
 try go_frame
 refine tk 6 41 rfl ?_
 try go_frame
 refine tk 7 42 rfl ?_
 try go_frame
 refine tk 8 43 rfl ?_
 try go_frame
 refine rd1 3 rfl (fun K hK => ?_)
 go_simp
 (with_reducible refine (HHt.out _ ?_).mono ?_)
 ·exact F.out.b
 rintro e Wc ⟨rfl,rfl⟩
 go_simp
 refine hK.out _ _ hHeld (fun hHeld => ?_)
 clear hK K
 try go_frame
 refine tk 4 39 rfl ?_
 try go_frame
 refine rd1 5 rfl (fun K hK => ?_)
 go_simp
 (with_reducible refine (HBw.out _ _).mono ?_)
 rintro e Wc ⟨x,hltx,rfl,rfl⟩
 go_simp
 refine hK.out _ _ hHeld (fun hHeld => ?_)
 clear hK K
 try go_frame
 refine rd1 9 rfl (fun K hK => ?_)
 go_simp
 (with_reducible refine (HHt.out _ ?_).mono ?_)
 ·exact F.out.b
 rintro e Wc ⟨rfl,rfl⟩
 go_simp
 refine hK.out _ _ hHeld (fun hHeld => ?_)
 clear hK K
 try go_frame
 refine tk 10 45 rfl ?_
 try go_frame
 refine rd1 11 rfl (fun K hK => ?_)
 go_simp
 (with_reducible refine (HBw.out _ _).mono ?_)
 rintro e Wc ⟨v,hltv,rfl,rfl⟩
 go_simp
 refine hK.out _ _ hHeld (fun hHeld => ?_)
 clear hK K
 try go_frame
 refine tk 12 8 rfl ?_
 try go_frame
 refine tk 13 9 rfl ?_
 try go_frame
 refine wpAnyH_done (by kernel_rfl) ?_ _
 refine NoPanic.normal ?_
 obtain ⟨hi,lo,hmx,hmn,hlh,hhn⟩ : ∃ hi lo : Nat,max (x : Int) (v : Int) = (hi : Int) ∧ min (x : Int) (v : Int) = (lo : Int) ∧ lo ≤ hi ∧ hi ≤ n:=⟨max x v,min x v,by omega,by omega,by omega,by omega⟩
 have HF8:=Lib.hid F.out.b
 have HR:=Lib.hid (fun W=>skip_Route hi lo W hlh (by have:=HLe.out; omega))
 have HLH:=Lib.hid (And.intro hlh hhn)
 clear FZ hHeld HS HBw hwn F hlh hhn hltx hltv
 go_wp2_with fail
 refine (HR.out _).mono ?_
 rintro e W4 ⟨rv,rfl,own,hb4⟩
 have HF4:=Lib.hid (HF8.out.nxt hb4)
 obtain ⟨RA,rc,rfl,hr, -, -⟩:=own_form own
 have HRd:=Lib.hid hr
 have HRl : Hid ((Skip.route hi lo).length ≤ 1048576):=Lib.hid (by have:=route_len20 hi hi lo; have:=HLH.out.2; have:=HLe.out; unfold Skip.route; omega)
 have SZH : Hid ((Tryz.prog.info? 65).map (·.size) = some 11):=Lib.hid (by kernel_rfl)
 clear own hb4 hr HR
 generalize hR : Skip.route hi lo = R at *
 have HRR:=Lib.hid hR
 clear hR
 go_wp2_with fail
 refine wp_loop_ghost_k (fun k a wr => ∀ Φ : Act → Prop,(∀ (s0 s1 s2 s3 s4 s5 s6 s8 s9 s10 s11 s13 s14 s15 s16 s17 s18 s19 s20 s21 s22 s23 s24 s25 s26 s27 s28 s29 s30 s31 s32 s33 s34 s35 s36 s37 s38 s39 s40 s41 s42 s43 s44 s45 s46 s47 s48 s49 s50 s51 s52 s53 s54 s55 s56 s57 s58 s59 s60 s61 s65 s66 s67 s68 s69 s70 s71 s72 s73 s74 s75 s76 s77 s78 s79 s80 s81 s82 s83 s84 s85 s86 s87 s88 s89 s90 s91 s92 s93 s94 s95 s96 s97 s98 s99 s100 s101 s102 s103 s104 s105 s106 s107 s108 s109 s110 s111 s112 s113 s114 s115 s116 s117 s118 s119 s120 s121 s122 s123 s124 s125 s126 s127 s128 s129 : Value) (j : Nat) (a : Nat),(j + k = R.length ∧ a ≤ n ∧ lo ≤ a ∧ Skip.route a lo = R.drop j ∧ Below W4.heap.size W4 wr) → Φ { tmps:=#[s0,s1,s2,s3,s4,s5,s6,.pointer (some ⟨lb,0,none⟩),s8,s9,s10,s11,.int .i64 (a : Int),s13,s14,s15,s16,s17,s18,s19,s20,s21,s22,s23,s24,s25,s26,s27,s28,s29,s30,s31,s32,s33,s34,s35,s36,s37,s38,s39,s40,s41,s42,s43,s44,s45,s46,s47,s48,s49,s50,s51,s52,s53,s54,s55,s56,s57,s58,s59,s60,s61,.slice RA R.length rc,.int .i64 (R.length : Int),.int .i64 (j : Int),s65,s66,s67,s68,s69,s70,s71,s72,s73,s74,s75,s76,s77,s78,s79,s80,s81,s82,s83,s84,s85,s86,s87,s88,s89,s90,s91,s92,s93,s94,s95,s96,s97,s98,s99,s100,s101,s102,s103,s104,s105,s106,s107,s108,s109,s110,s111,s112,s113,s114,s115,s116,s117,s118,s119,s120,s121,s122,s123,s124,s125,s126,s127,s128,s129],defers := [] }) → Φ a) (R.length) ?_ ?_
 ·refine fun Φ hΦ=>hΦ _ _ _ _ _ _ _ _ _ _ _ _ _ _ _ _ _ _ _ _ _ _ _ _ _ _ _ _ _ _ _ _ _ _ _ _ _ _ _ _ _ _ _ _ _ _ _ _ _ _ _ _ _ _ _ _ _ _ _ _ _ _ _ _ _ _ _ _ _ _ _ _ _ _ _ _ _ _ _ _ _ _ _ _ _ _ _ _ _ _ _ _ _ _ _ _ _ _ _ _ _ _ _ _ _ _ _ _ _ _ _ _ _ _ _ _ _ _ _ _ _ _ _ _ _ (0) (hi) ?_
  exact ⟨by omega,HLH.out.2,HLH.out.1,by rw [HRR.out,List.drop_zero],Below.refl _ _⟩
 ·intro k1 a1 wr1 hI1 J1 K1 hJ1 hK1
  refine hI1 (fun a=>Code.wp _ _ _ a _) ?_
  clear hI1 a1
  intro s0 s1 s2 s3 s4 s5 s6 s7 s8 s9 s10 s11 s12 s13 s14 s15 s16 s17 s18 s19 s20 s21 s22 s23 s24 s25 s26 s27 s28 s29 s30 s31 s32 s33 s34 s35 s36 s37 s38 s39 s40 s41 s42 s43 s44 s45 s46 s47 s48 s49 s50 s51 s52 s53 s54 s55 s56 s57 s58 s59 s60 s61 s62 s63 s64 s65 s66 s67 s68 s69 s70 s71 s72 s73 s74 s75 s76 s77 s78 s79 s80 s81 s82 s83 s84 s85 s86 s87 s88 s89 s90 s91 s92 s93 s94 s95 s96 s97 s98 s99 s100 s101 s102 s103 s104 s105 s106 s107 s108 s109 s110 s111 s112 s113 s114 s115 s116 s117 s118 s119 s120 s121 s122 s123 s124 j a hrel
  show Code.wp _ _ _ _ _
  obtain ⟨h1,ha,hla,hro,hb⟩:=hrel
  have F:=Lib.hid (Live.start wr1)
  have HB0:=Lib.hid (HF4.out.nxt hb)
  have HL1 : a < g.L.length:=by rw [List.length_map,HN.out]; omega
  obtain ⟨p,hp⟩ : ∃ p,g.es[a]'(by rw [HN.out]; omega) = p:=⟨_,rfl⟩
  have o1 : Led.One p.en a:=by have:=HG.out.wf.one a HL1; rwa [List.getElem_map,hp] at this
  have HHa:=Lib.hid (fun W (hW : Below wr1.heap.size wr1 W)=>lg_Head W lb g (HG.out.next (HB0.out.nxt hW)) a (by rw [HN.out]; omega) p hp)
  by_cases hj : j < R.length
  ·have hcons : R.drop j = R[j] :: R.drop (j + 1):=List.drop_eq_getElem_cons hj
   have hlt : lo < a:=by
    rcases Nat.lt_or_ge lo a with h | h
    ·exact h
    ·rw [Skip.route_self (by omega),hcons] at hro; cases hro
   rw [Skip.route_cons hlt,hcons] at hro
   injection hro with hx hro
   obtain ⟨ad,off,rfl,hbl,hcell⟩:=led_int_cell HRd.out hj
   have r0:=hcell _ hb
   have hnl:=Skip.next_link a lo
   have hnt:=Skip.next_lt a lo hlt
   rw [hx] at hro hnl hnt
   generalize R[j] = q at *
   have hls:=Led.link_sum HG.out.wf HL1 (j:=q) (by rcases hnl with h | h; exact .inl ⟨by omega,h⟩; exact .inr h) (by omega)
   rw [List.getElem_map,hp] at hls
   obtain ⟨p2,hp2⟩ : ∃ p,g.es[q]'(by rw [HN.out]; omega) = p:=⟨_,rfl⟩
   have hsa : Led.sumAt g.L q = p2.en.sum:=by rw [Led.sumAt_of (by rw [List.length_map,HN.out]; omega),List.getElem_map,hp2]
   have HSm:=Lib.hid (fun W (hW : Below wr1.heap.size wr1 W)=>lg_Sum W lb g (HG.out.next (HB0.out.nxt hW)) q (by rw [HN.out]; omega) p2 hp2)
   have HLk : Hid (∀ W kA kc,Reads W W.heap.size 1 kA p.en.hd.sk.length (strv p.en.hd.sk) → Calls Tryz.prog 48 #[.agg #[.int .i64 p.en.hd.hgt,.int .i64 p.en.hd.epo,.int .i64 p.en.hd.vw,.bool p.en.hd.last,.string ⟨p.en.hd.par.toArray⟩,.string ⟨p.en.hd.st.toArray⟩,.string ⟨p.en.hd.rc.toArray⟩,.string ⟨p.en.hd.tx.toArray⟩,.string ⟨p.en.hd.mem.toArray⟩,.string ⟨p.en.hd.nxt.toArray⟩,.slice kA p.en.hd.sk.length kc],.int .i64 (q : Int)] W (Ret W (.tuple #[.string ⟨p2.en.sum.toArray⟩,.int .i64 0]))):=Lib.hid (fun W kA kc hr=>by
    have:=hd_Link W p.en.hd (okH_of o1.ok) kA kc hr q
    unfold LinkEnd at this
    rw [hls.1,hsa] at this
    exact this)
   have hwj : IntKind.i64.wrap ((j : Int) + 1) = (j : Int) + 1:=IntWalk.i64_in _ (by have:=HRl.out; omega)
   have hj1 : (j : Int) < R.length:=by omega
   have hj0 : (0 : Int) ≤ j:=by omega
   have HI:=Lib.hid (And.intro h1 (And.intro (show j < R.length from hj) (And.intro (show q ≤ n by omega) (And.intro hnt.1 hro))))
   clear hsa hls hp2 hp hnl hnt hro hx hcons hlt hcell hbl hj h1 ha hla o1 HL1
   generalize p.en.hd = hd at *
   generalize p2.en.sum = sm at *
   go_wp2_with fail
   refine (HHa.out _ F.out.b).mono ?_
   rintro e W5 ⟨kA,kc,rfl,hb5,hr5⟩
   have F:=Live.hb F hb5
   have FX:=Lib.hid (Live.start W5)
   have HR5:=Lib.hid (fun W (hW : Below W5.heap.size W5 W)=>HLk.out W kA kc ((hr5.below hW).more hW.size))
   clear hb5 hr5 HHa HLk r0
   go_upto_region 17 with fail
   have F:=Live.ha F #[.int .i64 hd.hgt,.int .i64 hd.epo,.int .i64 hd.vw,.bool hd.last,.string ⟨hd.par.toArray⟩,.string ⟨hd.st.toArray⟩,.string ⟨hd.rc.toArray⟩,.string ⟨hd.tx.toArray⟩,.string ⟨hd.mem.toArray⟩,.string ⟨hd.nxt.toArray⟩,.slice kA hd.sk.length kc] 65
   have FX:=Live.ha FX #[.int .i64 hd.hgt,.int .i64 hd.epo,.int .i64 hd.vw,.bool hd.last,.string ⟨hd.par.toArray⟩,.string ⟨hd.st.toArray⟩,.string ⟨hd.rc.toArray⟩,.string ⟨hd.tx.toArray⟩,.string ⟨hd.mem.toArray⟩,.string ⟨hd.nxt.toArray⟩,.slice kA hd.sk.length kc] 65
   generalize W5.alloc (.cells #[.int .i64 hd.hgt,.int .i64 hd.epo,.int .i64 hd.vw,.bool hd.last,.string ⟨hd.par.toArray⟩,.string ⟨hd.st.toArray⟩,.string ⟨hd.rc.toArray⟩,.string ⟨hd.tx.toArray⟩,.string ⟨hd.mem.toArray⟩,.string ⟨hd.nxt.toArray⟩,.slice kA hd.sk.length kc] 65) = W6 at F FX ⊢
   have HR6:=Lib.hid (fun W (hW : Below W6.heap.size W6 W)=>HR5.out W (FX.out.b.nxt hW))
   have FX:=Lib.hid (Live.start W6)
   clear HR5
   generalize W5.heap.size = qb at F ⊢
   have RG : W6.rangeAt qb 0 [.int .i64 hd.hgt,.int .i64 hd.epo,.int .i64 hd.vw,.bool hd.last,.string ⟨hd.par.toArray⟩,.string ⟨hd.st.toArray⟩,.string ⟨hd.rc.toArray⟩,.string ⟨hd.tx.toArray⟩,.string ⟨hd.mem.toArray⟩,.string ⟨hd.nxt.toArray⟩,.slice kA hd.sk.length kc]:=range_of_blk (F.out.blk 0 rfl)
   go_wp2_with ((with_reducible refine at_load 75 ?_); refine wpList_load_mid rfl 65 _ rfl qb 0 rfl [.int .i64 hd.hgt,.int .i64 hd.epo,.int .i64 hd.vw,.bool hd.last,.string ⟨hd.par.toArray⟩,.string ⟨hd.st.toArray⟩,.string ⟨hd.rc.toArray⟩,.string ⟨hd.tx.toArray⟩,.string ⟨hd.mem.toArray⟩,.string ⟨hd.nxt.toArray⟩,.slice kA hd.sk.length kc] _ RG Tryz.underlying65 rfl SZH.out ?_)
   refine (HR6.out _ FX.out.b).mono ?_
   rintro e W7 ⟨rfl,hb7⟩
   have F:=Live.hb F hb7
   clear hb7 RG FX HR6
   go_wp2_with fail
   refine (HSm.out _ F.out.b).mono ?_
   rintro e W8 ⟨rfl,hb8⟩
   have F:=Live.hb F hb8
   clear hb8 HSm
   go_wp2_with fail
   refine Handed.intro (R.length - (j + 1)) ?_ (hJ1 _ _ _ (fun Φ hΦ=>hΦ _ _ _ _ _ _ _ _ _ _ _ _ _ _ _ _ _ _ _ _ _ _ _ _ _ _ _ _ _ _ _ _ _ _ _ _ _ _ _ _ _ _ _ _ _ _ _ _ _ _ _ _ _ _ _ _ _ _ _ _ _ _ _ _ _ _ _ _ _ _ _ _ _ _ _ _ _ _ _ _ _ _ _ _ _ _ _ _ _ _ _ _ _ _ _ _ _ _ _ _ _ _ _ _ _ _ _ _ _ _ _ _ _ _ _ _ _ _ _ _ _ _ _ _ _ (j + 1) (q) ?_))
   ·have:=HI.out.1; have:=HI.out.2.1; omega
   exact ⟨by have:=HI.out.1; have:=HI.out.2.1; omega,HI.out.2.2.1,HI.out.2.2.2.1,HI.out.2.2.2.2,hb.nxt F.out.b⟩
  ·have hj1 : ((j : Int) < R.length) = False:=by simp; omega
   have HSm:=Lib.hid (fun W (hW : Below wr1.heap.size wr1 W)=>lg_Sum W lb g (HG.out.next (HB0.out.nxt hW)) a (by rw [HN.out]; omega) p hp)
   have HDg : Hid (∀ W kA kc,Below w3.heap.size w3 W → Reads W W.heap.size 1 kA p.en.hd.sk.length (strv p.en.hd.sk) → Calls Tryz.prog 49 #[.agg #[.int .i64 p.en.hd.hgt,.int .i64 p.en.hd.epo,.int .i64 p.en.hd.vw,.bool p.en.hd.last,.string ⟨p.en.hd.par.toArray⟩,.string ⟨p.en.hd.st.toArray⟩,.string ⟨p.en.hd.rc.toArray⟩,.string ⟨p.en.hd.tx.toArray⟩,.string ⟨p.en.hd.mem.toArray⟩,.string ⟨p.en.hd.nxt.toArray⟩,.slice kA p.en.hd.sk.length kc]] W (Ret W (.string ⟨p.en.sum.toArray⟩))):=Lib.hid (fun W kA kc hW hr=>by
    have:=hd_Digest W p.en.hd (okH_of o1.ok) kA kc hr (HTb.out.next (F3.out.b.trans (hW.mono F3.out.b.size)))
    rwa [← o1.sum] at this)
   have hln : p.en.sum.length = 32:=o1.sum_len
   have hhg : p.en.hd.hgt = (a : Int):=o1.hgt
   clear hp o1 HL1 hj h1 hla hro hb
   generalize p.en.hd = hd at *
   generalize p.en.sum = sm at *
   go_wp2_with fail
   refine (HHa.out _ F.out.b).mono ?_
   rintro e W5 ⟨kA,kc,rfl,hb5,hr5⟩
   have F:=Live.hb F hb5
   have FX:=Lib.hid (Live.start W5)
   have HR5:=Lib.hid (fun W (hW : Below W5.heap.size W5 W)=>HDg.out W kA kc ((HB0.out.nxt F.out.b).nxt hW) ((hr5.below hW).more hW.size))
   clear hb5 hr5 HHa HDg
   have hq : (hd.hgt == (a : Int)) = true:=by simp [hhg]
   clear hhg
   go_upto_region 24 with fail
   have F:=Live.ha F #[.int .i64 hd.hgt,.int .i64 hd.epo,.int .i64 hd.vw,.bool hd.last,.string ⟨hd.par.toArray⟩,.string ⟨hd.st.toArray⟩,.string ⟨hd.rc.toArray⟩,.string ⟨hd.tx.toArray⟩,.string ⟨hd.mem.toArray⟩,.string ⟨hd.nxt.toArray⟩,.slice kA hd.sk.length kc] 65
   have FX:=Live.ha FX #[.int .i64 hd.hgt,.int .i64 hd.epo,.int .i64 hd.vw,.bool hd.last,.string ⟨hd.par.toArray⟩,.string ⟨hd.st.toArray⟩,.string ⟨hd.rc.toArray⟩,.string ⟨hd.tx.toArray⟩,.string ⟨hd.mem.toArray⟩,.string ⟨hd.nxt.toArray⟩,.slice kA hd.sk.length kc] 65
   generalize W5.alloc (.cells #[.int .i64 hd.hgt,.int .i64 hd.epo,.int .i64 hd.vw,.bool hd.last,.string ⟨hd.par.toArray⟩,.string ⟨hd.st.toArray⟩,.string ⟨hd.rc.toArray⟩,.string ⟨hd.tx.toArray⟩,.string ⟨hd.mem.toArray⟩,.string ⟨hd.nxt.toArray⟩,.slice kA hd.sk.length kc] 65) = W6 at F FX ⊢
   have HR6:=Lib.hid (fun W (hW : Below W6.heap.size W6 W)=>HR5.out W (FX.out.b.nxt hW))
   clear HR5
   generalize W5.heap.size = qb at F FX ⊢
   have FX:=Lib.hid (Live.start W6)
   go_wp2_with fail
   refine (HSm.out _ F.out.b).mono ?_
   rintro e W7 ⟨rfl,hb7⟩
   have F:=Live.hb F hb7
   have FX:=Live.hb FX hb7
   clear hb7 HSm
   have RG : W7.rangeAt qb 0 [.int .i64 hd.hgt,.int .i64 hd.epo,.int .i64 hd.vw,.bool hd.last,.string ⟨hd.par.toArray⟩,.string ⟨hd.st.toArray⟩,.string ⟨hd.rc.toArray⟩,.string ⟨hd.tx.toArray⟩,.string ⟨hd.mem.toArray⟩,.string ⟨hd.nxt.toArray⟩,.slice kA hd.sk.length kc]:=range_of_blk (F.out.blk 0 rfl)
   go_wp2_with ((with_reducible refine at_load 115 ?_); refine wpList_load_mid rfl 65 _ rfl qb 0 rfl [.int .i64 hd.hgt,.int .i64 hd.epo,.int .i64 hd.vw,.bool hd.last,.string ⟨hd.par.toArray⟩,.string ⟨hd.st.toArray⟩,.string ⟨hd.rc.toArray⟩,.string ⟨hd.tx.toArray⟩,.string ⟨hd.mem.toArray⟩,.string ⟨hd.nxt.toArray⟩,.slice kA hd.sk.length kc] _ RG Tryz.underlying65 rfl SZH.out ?_)
   refine (HR6.out _ FX.out.b).mono ?_
   rintro e W8 ⟨rfl,hb8⟩
   have F:=Live.hb F hb8
   clear hb8 RG FX HR6
   have k0 : W8.cell? ⟨qb,0,none⟩ = some (.int .i64 hd.hgt):=F.out.cell 0 0 rfl rfl
   go_wp2_with fail
   have hb9:=HB0.out.nxt F.out.b
   exact HP.out _ (F3.out.b.trans (hb9.mono F3.out.b.size))
end Go.Proofs.YtnelhjfjkkdoaaaGreatDoor
