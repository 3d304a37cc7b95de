import Derived.Test.YtnelhjfjkkdoaaaGreatDoorJ35
import Derived.Test.YtnelhjfjkkdoaaaGreatDoorJ39
set_option linter.unusedSimpArgs false
set_option linter.unusedVariables false
namespace Go.Proofs.YtnelhjfjkkdoaaaGreatDoor
open Go.RowKit Go.Instr
attribute [local go_sem] ba_get ByteArray.mk_append_mk
attribute [local go_sem ↓] Go.wp_at_zero Go.wp_at_succ
abbrev B20:=Int × Int × List TxM × Option Addr × Nat
def b2cell (b : B20) : List Value := [.int .i64 b.1,.int .i64 b.2.1,.slice b.2.2.2.1 b.2.2.1.length b.2.2.2.2]
abbrev b2cells (l : List B20) : List Value:=l.flatMap b2cell
theorem b2cell_len (b : B20) : (b2cell b).length = 3:=rfl
def B20.p (b : B20) : Int × List Ex.Tx:=(b.2.1,b.2.2.1.map (·.1))
structure B20At (w : World) (A : Option Addr) (l : List B20) : Prop where
 r : Reads w w.heap.size 3 A l.length (b2cells l)
 t : ∀ b ∈ l,TxsAt w b.2.2.2.1 b.2.2.1
 n : l.length ≤ 9223372036854775807
theorem B20At.next {w w' : World} {A : Option Addr} {l : List B20} (h : B20At w A l) (hb : Below w.heap.size w w') : B20At w' A l :=
 ⟨(h.r.below hb).more hb.size,fun b hm=>(h.t b hm).next hb,h.n⟩
def Big20End (w : World) (n : Nat) (e : Ending) (w' : World) : Prop := ∃ b,e = .returned (.bool b) ∧ Below w.heap.size w w' ∧ (b = false → n ≤ 12)
set_option maxRecDepth 100000 in
set_option maxHeartbeats 4000000 in
theorem law20_big (w : World) (l : List Ex.Ac) (hs : ∀ x ∈ l,x.1.length ≤ 9223372036854775807) (hl : l.length ≤ 9223372036854775807) (A : Option Addr) (c : Nat) (HR : Reads w w.heap.size 3 A l.length (acells l)) (set : List Pw.Mem) (B : Option Addr) (d : Nat)
  (bl : List B20) (C : Option Addr) (ce : Nat) (HB : B20At w C bl) :
  Calls Tryz.prog 35 #[.agg #[.slice A l.length c,.slice B set.length d],.slice C bl.length ce] w (Big20End w bl.length):=by
 have HPt : Hid (∀ w',Below w.heap.size w w' → Big20End w bl.length (.returned (.bool true)) w'):=Lib.hid (fun w' h=>⟨true,rfl,h,fun e=>by cases e⟩)
 have HPf : Hid (∀ b w',Below w.heap.size w w' → (b = false → bl.length ≤ 12) → Big20End w bl.length (.returned (.bool b)) w'):=Lib.hid (fun b w' h h1=>⟨b,rfl,h,h1⟩)
 generalize Big20End w bl.length = P at HPt HPf ⊢
 have HAc:=Lib.hid HR
 have HBB:=Lib.hid HB
 have HN:=Lib.hid (And.intro hs hl)
 clear hs hl HR HB
 go_enter Tryz.func35,Tryz.ntmps35
 go_upto_region 1 with fail
 have F0:=Live.ha (Lib.hid (Live.start w)) #[.slice A l.length c,.slice B set.length d] 85
 generalize w.alloc (.cells #[.slice A l.length c,.slice B set.length d] 85) = W0 at F0 ⊢
 generalize w.heap.size = sb at F0 ⊢
 go_wp2_with fail
 refine wp_loop_ghost_k (fun k a wr => ∀ Φ : Act → Prop,(∀ (s0 s3 s6 s7 s8 s9 s10 s11 s12 s13 s14 s15 s16 s17 s18 s19 s20 s21 s22 s23 s24 s25 s26 s27 s28 s29 s30 s31 s32 s33 s34 s35 s36 s37 s38 s39 s40 s41 s42 s43 s44 s45 s46 s47 s48 s49 s50 s51 s52 s53 s54 s55 s56 s57 s58 s59 s60 s61 s62 s63 s64 s65 s66 s67 s68 s69 s70 s71 s72 s73 s74 s75 s76 s77 s78 s79 s80 s81 s82 s83 s84 s85 s86 s87 s88 s89 s90 s91 s92 s93 s94 s95 s96 s97 : Value) (i : Nat),(i + k = l.length ∧ Live w wr [(sb,85,#[.slice A l.length c,.slice B set.length d])]) → Φ { tmps:=#[s0,.slice C bl.length ce,.pointer (some ⟨sb,0,none⟩),s3,.bool false,.int .i64 (i : Int),s6,s7,s8,s9,s10,s11,s12,s13,s14,s15,s16,s17,s18,s19,s20,s21,s22,s23,s24,s25,s26,s27,s28,s29,s30,s31,s32,s33,s34,s35,s36,s37,s38,s39,s40,s41,s42,s43,s44,s45,s46,s47,s48,s49,s50,s51,s52,s53,s54,s55,s56,s57,s58,s59,s60,s61,s62,s63,s64,s65,s66,s67,s68,s69,s70,s71,s72,s73,s74,s75,s76,s77,s78,s79,s80,s81,s82,s83,s84,s85,s86,s87,s88,s89,s90,s91,s92,s93,s94,s95,s96,s97],defers := [] }) → Φ a) (l.length) ?_ ?_
 ·refine fun Φ hΦ=>hΦ _ _ _ _ _ _ _ _ _ _ _ _ _ _ _ _ _ _ _ _ _ _ _ _ _ _ _ _ _ _ _ _ _ _ _ _ _ _ _ _ _ _ _ _ _ _ _ _ _ _ _ _ _ _ _ _ _ _ _ _ _ _ _ _ _ _ _ _ _ _ _ _ _ _ _ _ _ _ _ _ _ _ _ _ _ _ _ _ _ _ _ _ _ _ (0) ?_
  exact ⟨by omega,F0.out⟩
 ·intro k1 a1 wr1 hI1 J1 K1 hJ1 hK1
  refine hI1 (fun a=>Code.wp _ _ _ a _) ?_
  clear hI1 a1
  intro s0 s1 s2 s3 s4 s5 s6 s7 s8 s9 s10 s11 s12 s13 s14 s15 s16 s17 s18 s19 s20 s21 s22 s23 s24 s25 s26 s27 s28 s29 s30 s31 s32 s33 s34 s35 s36 s37 s38 s39 s40 s41 s42 s43 s44 s45 s46 s47 s48 s49 s50 s51 s52 s53 s54 s55 s56 s57 s58 s59 s60 s61 s62 s63 s64 s65 s66 s67 s68 s69 s70 s71 s72 s73 s74 s75 s76 s77 s78 s79 s80 s81 s82 s83 s84 s85 s86 s87 s88 s89 s90 s91 s92 s93 i hrel
  show Code.wp _ _ _ _ _
  obtain ⟨h1,hF⟩:=hrel
  have F:=Lib.hid hF
  have k0:=hF.cell 0 0 rfl rfl
  have HI:=Lib.hid h1
  by_cases hi : i < l.length
  ·obtain ⟨ad,off,rfl,hbl,hcell⟩:=ac_cells HAc.out hi
   obtain ⟨r0,_,_⟩:=hcell _ F.out.b
   have hi1 : (i : Int) < l.length:=by omega
   have hi0 : (0 : Int) ≤ i:=by omega
   have hwi : IntKind.i64.wrap ((i : Int) + 1) = (i : Int) + 1:=IntWalk.i64_in _ (by have:=HN.out.2; omega)
   have hlen:=HN.out.1 _ (List.getElem_mem hi)
   clear hcell hbl h1 hF
   generalize l[i] = x at *
   by_cases g : 100 < x.1.length
   ·have g' : (100 : Int) < x.1.length:=by omega
    clear g
    go_wp2_with fail
    exact HPt.out _ F.out.b
   ·have g' : ((100 : Int) < x.1.length) = False:=by simp; omega
    clear g
    go_wp2_with fail
    refine Handed.intro (l.length - (i + 1)) ?_ (hJ1 _ _ _ (fun Φ hΦ=>hΦ _ _ _ _ _ _ _ _ _ _ _ _ _ _ _ _ _ _ _ _ _ _ _ _ _ _ _ _ _ _ _ _ _ _ _ _ _ _ _ _ _ _ _ _ _ _ _ _ _ _ _ _ _ _ _ _ _ _ _ _ _ _ _ _ _ _ _ _ _ _ _ _ _ _ _ _ _ _ _ _ _ _ _ _ _ _ _ _ _ _ _ _ _ _ (i + 1) ?_))
    ·have:=HI.out; omega
    exact ⟨by have:=HI.out; omega,F.out⟩
  ·have hi1 : ((i : Int) < l.length) = False:=by simp; omega
   clear hi h1 HI hF
   go_wp2_with fail
   refine wp_loop_ghost_k (fun k a wr => ∀ Φ : Act → Prop,(∀ (s0 s3 s5 s7 s8 s9 s10 s11 s12 s13 s14 s15 s16 s17 s18 s19 s20 s21 s22 s23 s24 s25 s26 s27 s28 s29 s30 s31 s32 s33 s34 s35 s36 s37 s38 s39 s40 s41 s42 s43 s44 s45 s46 s47 s48 s49 s50 s51 s52 s53 s54 s55 s56 s57 s58 s59 s60 s61 s62 s63 s64 s65 s66 s67 s68 s69 s70 s71 s72 s73 s74 s75 s76 s77 s78 s79 s80 s81 s82 s83 s84 s85 s86 s87 s88 s89 s90 s91 s92 s93 s94 s95 s96 s97 : Value) (i : Nat),(i + k = bl.length ∧ Live w wr [(sb,85,#[.slice A l.length c,.slice B set.length d])]) → Φ { tmps:=#[s0,.slice C bl.length ce,.pointer (some ⟨sb,0,none⟩),s3,.bool false,s5,.int .i64 (i : Int),s7,s8,s9,s10,s11,s12,s13,s14,s15,s16,s17,s18,s19,s20,s21,s22,s23,s24,s25,s26,s27,s28,s29,s30,s31,s32,s33,s34,s35,s36,s37,s38,s39,s40,s41,s42,s43,s44,s45,s46,s47,s48,s49,s50,s51,s52,s53,s54,s55,s56,s57,s58,s59,s60,s61,s62,s63,s64,s65,s66,s67,s68,s69,s70,s71,s72,s73,s74,s75,s76,s77,s78,s79,s80,s81,s82,s83,s84,s85,s86,s87,s88,s89,s90,s91,s92,s93,s94,s95,s96,s97],defers := [] }) → Φ a) (bl.length) ?_ ?_
   ·refine fun Φ hΦ=>hΦ _ _ _ _ _ _ _ _ _ _ _ _ _ _ _ _ _ _ _ _ _ _ _ _ _ _ _ _ _ _ _ _ _ _ _ _ _ _ _ _ _ _ _ _ _ _ _ _ _ _ _ _ _ _ _ _ _ _ _ _ _ _ _ _ _ _ _ _ _ _ _ _ _ _ _ _ _ _ _ _ _ _ _ _ _ _ _ _ _ _ _ _ _ _ (0) ?_
    exact ⟨by omega,F.out⟩
   ·intro k2 a2 wr2 hI2 J2 K2 hJ2 hK2
    refine hI2 (fun a=>Code.wp _ _ _ a _) ?_
    clear hI2 a2
    intro s0 s1 s2 s3 s4 s5 s6 s7 s8 s9 s10 s11 s12 s13 s14 s15 s16 s17 s18 s19 s20 s21 s22 s23 s24 s25 s26 s27 s28 s29 s30 s31 s32 s33 s34 s35 s36 s37 s38 s39 s40 s41 s42 s43 s44 s45 s46 s47 s48 s49 s50 s51 s52 s53 s54 s55 s56 s57 s58 s59 s60 s61 s62 s63 s64 s65 s66 s67 s68 s69 s70 s71 s72 s73 s74 s75 s76 s77 s78 s79 s80 s81 s82 s83 s84 s85 s86 s87 s88 s89 s90 s91 s92 s93 i hrel
    show Code.wp _ _ _ _ _
    obtain ⟨h1,hF⟩:=hrel
    have F:=Lib.hid hF
    have HI:=Lib.hid h1
    by_cases hi : i < bl.length
    ·obtain ⟨ad,off,hC,hbl,hcell⟩:=flat_cells b2cell_len (by decide) HBB.out.r hi
     subst hC
     have HR2 : Hid (∀ W,Below w.heap.size w W → W.cell? ⟨ad,off + i * 3 + 2,none⟩ = some (.slice bl[i].2.2.2.1 bl[i].2.2.1.length bl[i].2.2.2.2)):=Lib.hid (fun W hW=>hcell W hW 2 _ rfl)
     have hi1 : (i : Int) < bl.length:=by omega
     have hi0 : (0 : Int) ≤ i:=by omega
     have hwi : IntKind.i64.wrap ((i : Int) + 1) = (i : Int) + 1:=IntWalk.i64_in _ (by have:=HBB.out.n; omega)
     have HTx:=Lib.hid (HBB.out.t _ (List.getElem_mem hi))
     clear hcell hbl h1 hF
     generalize bl[i] = bk at *
     obtain ⟨kd,vw,L,tA,tc⟩:=bk
     simp only at HR2 HTx
     have r1:=HR2.out _ F.out.b
     by_cases g1 : 20 < L.length
     ·have g1' : (20 : Int) < L.length:=by omega
      clear g1
      go_wp2_with fail
      exact HPt.out _ F.out.b
     have g1' : ((20 : Int) < L.length) = False:=by simp; omega
     clear g1
     go_wp2_with fail
     clear r1
     refine wp_loop_ghost_k (fun k a wr => ∀ Φ : Act → Prop,(∀ (s0 s3 s5 s8 s9 s10 s11 s12 s13 s14 s15 s16 s17 s18 s19 s20 s21 s22 s23 s24 s25 s26 s27 s28 s29 s30 s31 s32 s33 s34 s35 s36 s37 s38 s39 s40 s41 s42 s43 s44 s45 s46 s47 s48 s49 s50 s51 s52 s53 s54 s55 s56 s57 s58 s59 s60 s61 s62 s63 s64 s65 s66 s67 s68 s69 s70 s71 s72 s73 s74 s75 s76 s77 s78 s79 s80 s81 s82 s83 s84 s85 s86 s87 s88 s89 s90 s91 s92 s93 s94 s95 s96 s97 : Value) (j : Nat),(j + k = L.length ∧ Live w wr [(sb,85,#[.slice A l.length c,.slice B set.length d])]) → Φ { tmps:=#[s0,.slice (some ⟨ad,off,none⟩) bl.length ce,.pointer (some ⟨sb,0,none⟩),s3,.bool false,s5,.int .i64 (i : Int),.int .i64 (j : Int),s8,s9,s10,s11,s12,s13,s14,s15,s16,s17,s18,s19,s20,s21,s22,s23,s24,s25,s26,s27,s28,s29,s30,s31,s32,s33,s34,s35,s36,s37,s38,s39,s40,s41,s42,s43,s44,s45,s46,s47,s48,s49,s50,s51,s52,s53,s54,s55,s56,s57,s58,s59,s60,s61,s62,s63,s64,s65,s66,s67,s68,s69,s70,s71,s72,s73,s74,s75,s76,s77,s78,s79,s80,s81,s82,s83,s84,s85,s86,s87,s88,s89,s90,s91,s92,s93,s94,s95,s96,s97],defers := [] }) → Φ a) (L.length) ?_ ?_
     ·refine fun Φ hΦ=>hΦ _ _ _ _ _ _ _ _ _ _ _ _ _ _ _ _ _ _ _ _ _ _ _ _ _ _ _ _ _ _ _ _ _ _ _ _ _ _ _ _ _ _ _ _ _ _ _ _ _ _ _ _ _ _ _ _ _ _ _ _ _ _ _ _ _ _ _ _ _ _ _ _ _ _ _ _ _ _ _ _ _ _ _ _ _ _ _ _ _ _ _ _ _ (0) ?_
      exact ⟨by omega,F.out⟩
     ·intro k3 a3 wr3 hI3 J3 K3 hJ3 hK3
      refine hI3 (fun a=>Code.wp _ _ _ a _) ?_
      clear hI3 a3
      intro s0 s1 s2 s3 s4 s5 s6 s7 s8 s9 s10 s11 s12 s13 s14 s15 s16 s17 s18 s19 s20 s21 s22 s23 s24 s25 s26 s27 s28 s29 s30 s31 s32 s33 s34 s35 s36 s37 s38 s39 s40 s41 s42 s43 s44 s45 s46 s47 s48 s49 s50 s51 s52 s53 s54 s55 s56 s57 s58 s59 s60 s61 s62 s63 s64 s65 s66 s67 s68 s69 s70 s71 s72 s73 s74 s75 s76 s77 s78 s79 s80 s81 s82 s83 s84 s85 s86 s87 s88 s89 s90 s91 s92 j hrel
      show Code.wp _ _ _ _ _
      obtain ⟨h1,hF⟩:=hrel
      have F:=Lib.hid hF
      have HJ:=Lib.hid h1
      have r1:=HR2.out _ F.out.b
      by_cases hj : j < L.length
      ·obtain ⟨ad2,off2,rfl,hbl,hcell⟩:=tx_cells HTx.out.r hj
       obtain ⟨s0,s1,s2,s3,s4,s5,s6,s7⟩:=hcell _ F.out.b
       have hj1 : (j : Int) < L.length:=by omega
       have hj0 : (0 : Int) ≤ j:=by omega
       have hwj : IntKind.i64.wrap ((j : Int) + 1) = (j : Int) + 1:=IntWalk.i64_in _ (by have:=HTx.out.n; omega)
       obtain ⟨o1,o2,o3,o4,_⟩:=HTx.out.t _ (List.getElem_mem hj)
       clear hcell hbl h1 hF
       generalize L[j] = x at *
       go_upto_region 15 with fail
       have F:=Live.ha F #[.int .i64 x.1.kind,.string ⟨x.1.frm.toArray⟩,.int .i64 x.1.seq,.string ⟨x.1.dst.toArray⟩,.int .i64 x.1.amt,.string ⟨x.1.key.toArray⟩,.string ⟨x.1.val.toArray⟩,.slice x.2.1 x.1.mem.length x.2.2] 80
       generalize World.alloc _ (.cells #[.int .i64 x.1.kind,.string ⟨x.1.frm.toArray⟩,.int .i64 x.1.seq,.string ⟨x.1.dst.toArray⟩,.int .i64 x.1.amt,.string ⟨x.1.key.toArray⟩,.string ⟨x.1.val.toArray⟩,.slice x.2.1 x.1.mem.length x.2.2] 80) = W5 at F ⊢
       generalize wr3.heap.size = tb at F ⊢
       clear s0 s1 s2 s3 s4 s5 s6 s7 r1
       have s1 : W5.cell? ⟨tb,1,none⟩ = some (.string ⟨x.1.frm.toArray⟩):=F.out.cell 0 1 rfl rfl
       have s3 : W5.cell? ⟨tb,3,none⟩ = some (.string ⟨x.1.dst.toArray⟩):=F.out.cell 0 3 rfl rfl
       have s5 : W5.cell? ⟨tb,5,none⟩ = some (.string ⟨x.1.key.toArray⟩):=F.out.cell 0 5 rfl rfl
       have s6 : W5.cell? ⟨tb,6,none⟩ = some (.string ⟨x.1.val.toArray⟩):=F.out.cell 0 6 rfl rfl
       have s7 : W5.cell? ⟨tb,7,none⟩ = some (.slice x.2.1 x.1.mem.length x.2.2):=F.out.cell 0 7 rfl rfl
       by_cases g1 : 100 < x.1.frm.length
       ·have g1' : (100 : Int) < x.1.frm.length:=by omega
        clear g1
        go_wp2_with fail
        exact HPt.out _ F.out.b
       have g1' : ((100 : Int) < x.1.frm.length) = False:=by simp; omega
       by_cases g2 : 100 < x.1.dst.length
       ·have g2' : (100 : Int) < x.1.dst.length:=by omega
        clear g1 g2
        go_wp2_with fail
        exact HPt.out _ F.out.b
       have g2' : ((100 : Int) < x.1.dst.length) = False:=by simp; omega
       by_cases g3 : 100 < x.1.key.length
       ·have g3' : (100 : Int) < x.1.key.length:=by omega
        clear g1 g2 g3
        go_wp2_with fail
        exact HPt.out _ F.out.b
       have g3' : ((100 : Int) < x.1.key.length) = False:=by simp; omega
       by_cases g4 : 100 < x.1.val.length
       ·have g4' : (100 : Int) < x.1.val.length:=by omega
        clear g1 g2 g3 g4
        go_wp2_with fail
        exact HPt.out _ F.out.b
       have g4' : ((100 : Int) < x.1.val.length) = False:=by simp; omega
       by_cases g5 : 100 < x.1.mem.length
       ·have g5' : (100 : Int) < x.1.mem.length:=by omega
        clear g1 g2 g3 g4 g5
        go_wp2_with fail
        exact HPt.out _ F.out.b
       have g5' : ((100 : Int) < x.1.mem.length) = False:=by simp; omega
       clear g1 g2 g3 g4 g5
       go_wp2_with fail
       refine Handed.intro (L.length - (j + 1)) ?_ (hJ3 _ _ _ (fun Φ hΦ=>hΦ _ _ _ _ _ _ _ _ _ _ _ _ _ _ _ _ _ _ _ _ _ _ _ _ _ _ _ _ _ _ _ _ _ _ _ _ _ _ _ _ _ _ _ _ _ _ _ _ _ _ _ _ _ _ _ _ _ _ _ _ _ _ _ _ _ _ _ _ _ _ _ _ _ _ _ _ _ _ _ _ _ _ _ _ _ _ _ _ _ _ _ _ _ (j + 1) ?_))
       ·have:=HJ.out; omega
       exact ⟨by have:=HJ.out; omega,F.out.drop 1⟩
      ·have hj1 : ((j : Int) < L.length) = False:=by simp; omega
       clear hj h1 HJ hF
       go_wp2_with fail
       refine Handed.intro (bl.length - (i + 1)) ?_ (hJ2 _ _ _ (fun Φ hΦ=>hΦ _ _ _ _ _ _ _ _ _ _ _ _ _ _ _ _ _ _ _ _ _ _ _ _ _ _ _ _ _ _ _ _ _ _ _ _ _ _ _ _ _ _ _ _ _ _ _ _ _ _ _ _ _ _ _ _ _ _ _ _ _ _ _ _ _ _ _ _ _ _ _ _ _ _ _ _ _ _ _ _ _ _ _ _ _ _ _ _ _ _ _ _ _ _ (i + 1) ?_))
       ·have:=HI.out; omega
       exact ⟨by have:=HI.out; omega,F.out⟩
    ·have hi1 : ((i : Int) < bl.length) = False:=by simp; omega
     have k0:=hF.cell 0 0 rfl rfl
     have k1:=hF.cell 0 1 rfl rfl
     clear hi h1 HI hF
     by_cases g1 : 20 < l.length
     ·have g1' : (20 : Int) < l.length:=by omega
      clear g1
      go_wp2_with fail
      exact HPt.out _ F.out.b
     have g1' : ((20 : Int) < l.length) = False:=by simp; omega
     by_cases g2 : 100 < set.length
     ·have g2' : (100 : Int) < set.length:=by omega
      clear g1 g2
      go_wp2_with fail
      exact HPt.out _ F.out.b
     have g2' : ((100 : Int) < set.length) = False:=by simp; omega
     by_cases g3 : 12 < bl.length
     ·have g3' : (12 : Int) < bl.length:=by omega
      clear g1 g2 g3
      go_wp2_with fail
      exact HPt.out _ F.out.b
     have g3' : ((12 : Int) < bl.length) = False:=by simp; omega
     have HG:=Lib.hid (Nat.le_of_not_lt g3)
     clear g1 g2 g3
     go_wp2_with fail
     exact HPf.out _ _ F.out.b (fun _=>HG.out)
def Grown20End (w : World) (l : List Ex.Ac) (set : List Pw.Mem) (bs : List (Int × List Ex.Tx)) (e : Ending) (w' : World) : Prop :=
 ∃ v,e = .returned v ∧ Below w.heap.size w w' ∧ ((Ex.genW l set).2 = 0 → ∃ lb g,v = .pointer (some ⟨lb,0,none⟩) ∧ LgAt w' w.heap.size lb g ∧ g.L = Led.growW [Led.newE (Ex.genW l set).1 set] bs) ∧ ((Ex.genW l set).2 ≠ 0 → v = .pointer none)
theorem own_base {w : World} {B B' e size n : Nat} {v : Value} {xs : List Value} (h : w.ownsRow B e size v n xs) (hB : B' ≤ B) : w.ownsRow B' e size v n xs :=
 ⟨h.1,h.2.imp id (fun ⟨g,cap,cur,e,hb,r⟩=>⟨g,cap,cur,e,Nat.le_trans hB hb,r⟩)⟩
theorem LgAt.base {w : World} {B B' lb : Nat} {g : LgM} (h : LgAt w B lb g) (hB : B' ≤ B) : LgAt w B' lb g := { h with own:=own_base h.own hB,lo:=Nat.le_trans hB h.lo }
theorem add_L {L L' : List En} {n : Nat} (hn : L.length = n + 1) {q : En} (hq : L[n]? = some q) {view : Int} {txs : List Ex.Tx} (h1 : Led.makeC q view txs = 0 → L' = L ++ [Led.makeE L q view txs]) (h2 : Led.makeC q view txs ≠ 0 → L' = L) : L' = (Led.addW L view txs).1:=by
 by_cases hc : Led.makeC q view txs = 0
 ·rw [Led.add_ok hn hq hc]; exact h1 hc
 ·have e : L[n]'(by omega) = q:=by rw [List.getElem?_eq_getElem (by omega)] at hq; exact Option.some.inj hq
  rw [h2 hc]
  unfold Led.addW
  rw [Led.last_of hn,e]
  simp only
  rw [if_neg hc]
theorem Led.Few.mono {L : List En} {n m : Nat} (h : Led.Few L n) (hm : n ≤ m) : Led.Few L m:=fun e he=>Nat.le_trans (h e he) hm
set_option maxRecDepth 100000 in
set_option maxHeartbeats 4000000 in
theorem law20_grown (w : World) (l : List Ex.Ac) (hs : ∀ x ∈ l,x.1.length ≤ 9223372036854775807) (A : Option Addr) (c : Nat) (HR : Reads w w.heap.size 3 A l.length (acells l)) (set : List Pw.Mem) (hm : ∀ x ∈ set,x.1.length ≤ 9223372036854775807) (B : Option Addr) (d : Nat) (HS : Reads w w.heap.size 2 B set.length (mcells set)) (hT : Tbl w)
  (bl : List B20) (C : Option Addr) (ce : Nat) (HB : B20At w C bl) (h12 : bl.length ≤ 12) :
  Calls Tryz.prog 36 #[.agg #[.slice A l.length c,.slice B set.length d],.slice C bl.length ce] w (Grown20End w l set (bl.map B20.p)):=by
 have HPn : Hid (∀ w',(Ex.genW l set).2 ≠ 0 → Below w.heap.size w w' → Grown20End w l set (bl.map B20.p) (.returned (.pointer none)) w'):=Lib.hid (fun w' h hb=>⟨_,rfl,hb,fun e=>absurd e h,fun _=>rfl⟩)
 have HPo : Hid (∀ lb g w',(Ex.genW l set).2 = 0 → Below w.heap.size w w' → LgAt w' w.heap.size lb g → g.L = Led.growW [Led.newE (Ex.genW l set).1 set] (bl.map B20.p) → Grown20End w l set (bl.map B20.p) (.returned (.pointer (some ⟨lb,0,none⟩))) w'):=Lib.hid (fun lb g w' e hb h1 h2=>⟨_,rfl,hb,fun _=>⟨lb,g,rfl,h1,h2⟩,fun h=>absurd e h⟩)
 generalize Grown20End w l set (bl.map B20.p) = P at HPn HPo ⊢
 have HNw:=Lib.hid (fun W (hW : Below w.heap.size w W)=>led_New W l hs A c ((HR.below hW).more hW.size) set hm B d ((HS.below hW).more hW.size) (hT.next hW))
 have HF0:=Lib.hid (Led.newE_few l set)
 unfold NewLEnd at HNw
 generalize Ex.genW l set = gw at *
 obtain ⟨t,cd⟩:=gw
 simp only at HPn HPo HNw HF0
 have HTb:=Lib.hid hT
 have HBB:=Lib.hid HB
 have H12:=Lib.hid h12
 clear HR hs hm HS hT HB h12
 go_enter Tryz.func36,Tryz.ntmps36
 go_upto_region 1 with fail
 have F0:=Live.ha (Lib.hid (Live.start w)) #[.slice A l.length c,.slice B set.length d] 85
 generalize w.alloc (.cells #[.slice A l.length c,.slice B set.length d] 85) = W0 at F0 ⊢
 generalize w.heap.size = sb at F0 ⊢
 have k0 : W0.cell? ⟨sb,0,none⟩ = some (.slice A l.length c):=F0.out.cell 0 0 rfl rfl
 have k1 : W0.cell? ⟨sb,1,none⟩ = some (.slice B set.length d):=F0.out.cell 0 1 rfl rfl
 have HN0:=Lib.hid (HNw.out _ F0.out.b)
 go_wp2_with fail
 refine HN0.out.mono ?_
 rintro e w1 ⟨v,rfl,hb,hok,hno⟩
 have F1:=Live.hb F0 hb
 have HZ:=Lib.hid F0.out.b.size
 clear hb HN0 HNw k0 k1
 by_cases hc : cd = 0
 rotate_left
 ·have hc1 : ((cd : Int) != 0) = true:=by simp; exact hc
  have HCn:=Lib.hid hc
  clear hok hno hc
  go_wp2_with fail
  exact HPn.out _ HCn.out F1.out.b
 subst hc
 obtain ⟨lb,g,rfl,hg,hgL⟩:=hok rfl
 have HG:=Lib.hid (And.intro (hg.base HZ.out) hgL)
 have HW0 : Hid (Led.Wf [Led.newE t set]):=Lib.hid (by rw [← hgL]; exact hg.wf)
 clear hg hgL hok hno
 generalize [Led.newE t set] = L0 at *
 go_wp2_with fail
 refine wp_loop_ghost_k (fun k a wr => ∀ Φ : Act → Prop,(∀ (s0 s1 s2 s3 s7 s8 s9 s10 s11 s12 s13 s14 s15 s16 s17 s18 s22 s23 s24 s25 s26 s27 s28 s29 s30 s31 s32 : Value) (i : Nat) (g : LgM),(i + k = bl.length ∧ LgAt wr w.heap.size lb g ∧ g.L = Led.growW L0 ((bl.take i).map B20.p) ∧ Led.Few g.L (9 + 16 * i) ∧ Below w.heap.size w wr) → Φ { tmps:=#[s0,s1,s2,s3,.pointer none,.pointer (some ⟨lb,0,none⟩),.int .i64 0,s7,s8,s9,s10,s11,s12,s13,s14,s15,s16,s17,s18,.slice C bl.length ce,.int .i64 (bl.length : Int),.int .i64 (i : Int),s22,s23,s24,s25,s26,s27,s28,s29,s30,s31,s32],defers := [] }) → Φ a) (bl.length) ?_ ?_
 ·refine fun Φ hΦ=>hΦ _ _ _ _ _ _ _ _ _ _ _ _ _ _ _ _ _ _ _ _ _ _ _ _ _ _ _ (0) (g) ?_
  exact ⟨by omega,HG.out.1,HG.out.2,by rw [HG.out.2]; exact HF0.out,F1.out.b⟩
 ·intro k1 a1 wr1 hI1 J1 K1 hJ1 hK1
  refine hI1 (fun a=>Code.wp _ _ _ a _) ?_
  clear hI1 a1
  intro s0 s1 s2 s3 s4 s5 s6 s7 s8 s9 s10 s11 s12 s13 s14 s15 s16 s17 s18 s19 s20 s21 s22 s23 s24 s25 s26 i g hrel
  show Code.wp _ _ _ _ _
  obtain ⟨h1,hg,hgL,hf,hb⟩:=hrel
  by_cases hi : i < bl.length
  ·obtain ⟨ad,off,hC,hbl,hcell⟩:=flat_cells b2cell_len (by decide) HBB.out.r hi
   subst hC
   have r0 : wr1.cell? ⟨ad,off + i * 3,none⟩ = some (.int .i64 bl[i].1):=hcell _ hb 0 _ rfl
   have r1 : wr1.cell? ⟨ad,off + i * 3 + 1,none⟩ = some (.int .i64 bl[i].2.1):=hcell _ hb 1 _ rfl
   have r2 : wr1.cell? ⟨ad,off + i * 3 + 2,none⟩ = some (.slice bl[i].2.2.2.1 bl[i].2.2.1.length bl[i].2.2.2.2):=hcell _ hb 2 _ rfl
   have hi1 : (i : Int) < bl.length:=by omega
   have hi0 : (0 : Int) ≤ i:=by omega
   have hwi : IntKind.i64.wrap ((i : Int) + 1) = (i : Int) + 1:=IntWalk.i64_in _ (by have:=HBB.out.n; omega)
   have HTx:=Lib.hid ((HBB.out.next hb).t _ (List.getElem_mem hi))
   have HNx : Hid (Led.growW L0 ((bl.take (i + 1)).map B20.p) = (Led.addW g.L bl[i].p.1 bl[i].p.2).1):=Lib.hid (by
    rw [List.take_succ_eq_append_getElem hi,List.map_append,List.map_singleton,Led.growW_snoc,← hgL])
   have HI:=Lib.hid (And.intro h1 (And.intro hi (And.intro hf (And.intro hb hg))))
   obtain ⟨n,hn⟩:=hg.pos
   obtain ⟨p,hp⟩ : ∃ p,g.es[n]'(by omega) = p:=⟨_,rfl⟩
   have HP2:=Lib.hid (show g.L.length = n + 1 ∧ g.L[n]? = some p.en from ⟨by rw [List.length_map,hn],by rw [List.getElem?_map,List.getElem?_eq_getElem (by omega),hp]; rfl⟩)
   have hfew : ∀ e ∈ g.L,Trie.count e.st ≤ 900:=fun e he=>by have h5:=hf e he; have h6:=H12.out; omega
   have HAdd:=Lib.hid (fun W (hW : Below wr1.heap.size wr1 W)=>led_Add W w.heap.size lb g (hg.next hW) (HTb.out.next (hb.nxt hW)) hfew n hn p hp bl[i].2.1 bl[i].2.2.1 bl[i].2.2.2.1 bl[i].2.2.2.2 (HTx.out.next hW))
   clear hfew hp hn hcell hbl h1 hf hg hgL
   generalize bl[i] = bk at *
   obtain ⟨kd,vw,L,tA,tc⟩:=bk
   simp only at r0 r1 r2 HTx HAdd
   clear hi
   go_upto_region 7 with fail
   have F:=Live.ha (Lib.hid (Live.start wr1)) #[.int .i64 kd,.int .i64 vw,.slice tA L.length tc] 94
   generalize wr1.alloc (.cells #[.int .i64 kd,.int .i64 vw,.slice tA L.length tc] 94) = W5 at F ⊢
   generalize wr1.heap.size = tb at F ⊢
   clear r0 r1 r2
   have r1 : W5.cell? ⟨tb,1,none⟩ = some (.int .i64 vw):=F.out.cell 0 1 rfl rfl
   have r2 : W5.cell? ⟨tb,2,none⟩ = some (.slice tA L.length tc):=F.out.cell 0 2 rfl rfl
   have HA5:=Lib.hid (HAdd.out _ F.out.b)
   have HB5:=Lib.hid (hb.nxt F.out.b)
   have HF5:=Lib.hid (HI.out.2.2.2.2.next F.out.b)
   clear HAdd hb F
   go_wp2_with fail
   refine HA5.out.mono ?_
   rintro e w6 ⟨hd,kA,kc,g',rfl,hg',hfm,_,hy,hn⟩
   have HG6 : Hid (LgAt w6 w.heap.size lb g' ∧ g'.L = (Led.addW g.L vw (L.map (·.1))).1 ∧ Below w.heap.size w w6):=Lib.hid ⟨hg',add_L HP2.out.1 HP2.out.2 (fun h=>(hy h).1) (fun h=>by rw [(hn h).1]),HB5.out.trans (hfm.below HF5.out.lo (fun k hk=>(HF5.out.own.lt k hk).1) HF5.out.from.1)⟩
   clear hg' hfm hy hn HA5 r1 r2
   go_wp2_with fail
   refine Handed.intro (bl.length - (i + 1)) ?_ (hJ1 _ _ _ (fun Φ hΦ=>hΦ _ _ _ _ _ _ _ _ _ _ _ _ _ _ _ _ _ _ _ _ _ _ _ _ _ _ _ (i + 1) (g') ?_))
   ·have:=HI.out.1; have:=HI.out.2.1; omega
   have h5:=Led.addW_few HI.out.2.2.2.2.wf HI.out.2.2.1 (by have:=H12.out; have:=HI.out.2.1; omega) vw (L.map (·.1))
   exact ⟨by have:=HI.out.1; have:=HI.out.2.1; omega,HG6.out.1,by rw [HG6.out.2.1,HNx.out]; rfl,by rw [HG6.out.2.1]; exact h5.mono (by omega),HG6.out.2.2⟩
  ·have hi1 : ((i : Int) < bl.length) = False:=by simp; omega
   have HE:=Lib.hid (And.intro hg (And.intro hgL hb))
   have hil : (bl.take i) = bl:=List.take_of_length_le (by omega)
   have HIL:=Lib.hid hil
   clear h1 hg hgL hf hb hi hil
   go_wp2_with fail
   exact HPo.out lb g _ (by first | exact trivial | rfl) HE.out.2.2 HE.out.1 (by rw [HE.out.2.1,HIL.out])
end Go.Proofs.YtnelhjfjkkdoaaaGreatDoor
