import Derived.Test.YtomnlhbioijfhaaGreatDoorJ40
import Derived.Test.YtomnlhbioijfhaaGreatDoorJ31
set_option linter.unusedSimpArgs false
set_option linter.unusedVariables false
namespace Go.Proofs.YtomnlhbioijfhaaGreatDoor
open Go.RowKit Go.Instr
attribute [local go_sem] ba_get ByteArray.mk_append_mk
attribute [local go_sem ↓] Go.wp_at_zero Go.wp_at_succ
set_option maxRecDepth 100000 in
set_option maxHeartbeats 4000000 in
theorem verR_loop (w W0 : World) (gb bp : Nat) (gl items : List Trie.KV) (n : Nat) (hgn : gl.length = n) (hin : items.length = n) (hn : n ≤ 100000) (A B A' B' : Option Addr) (c d c' d' n' : Nat) (nx : List UInt8) (L : List (Nat × Nat × Array Value))
  (hL : Live w W0 ((gb,91,#[.slice A n c,.slice B 0 d,.bool true]) :: (bp,27,#[.slice A' n c',.string ⟨nx.toArray⟩,.slice B' n' d']) :: L))
  (hg : Reads W0 W0.heap.size 2 A n (icells gl)) (hi : Reads W0 W0.heap.size 2 A' n (icells items))
  (Q : Exit → Act → World → Prop)
  (hQ : gl = items → ∀ (W : World) (s0 s1 s2 s3 s4 s5 s6 s7 s8 s10 s11 s12 s14 s15 s16 s17 s18 s19 s20 s21 s22 s23 s24 s25 s26 s27 s28 s29 s30 s31 s32 s33 s34 s35 s36 s37 s38 s39 s40 s41 s42 s43 s44 s45 s46 s47 s48 s49 s50 s51 s52 s53 s54 s55 s56 s57 s58 s59 s60 s61 s62 s63 s64 s65 s66 s67 s68 s69 s70 s71 s72 s73 s74 s75 s76 s77 s78 s79 s80 s81 s82 s83 s84 s85 s86 s87 s88 s89 s90 s91 s92 s93 s94 s95 s96 s97 s98 s99 s100 s101 s102 s103 s104 s105 s106 s107 s108 s109 s110 s111 s112 s113 s114 s115 s116 s117 s118 : Value),Below W0.heap.size W0 W → Q (.exit 0) { tmps:=#[s0,s1,s2,s3,s4,s5,s6,s7,s8,.pointer (some ⟨bp,0,none⟩),s10,s11,s12,.pointer (some ⟨gb,0,none⟩),s14,s15,s16,s17,s18,s19,s20,s21,s22,s23,s24,s25,s26,s27,s28,s29,s30,s31,s32,s33,s34,s35,s36,s37,s38,s39,s40,s41,s42,s43,s44,s45,s46,s47,s48,s49,s50,s51,s52,s53,s54,s55,s56,s57,s58,s59,s60,s61,s62,s63,s64,s65,s66,s67,s68,s69,s70,s71,s72,s73,s74,s75,s76,s77,s78,s79,s80,s81,s82,s83,s84,s85,s86,s87,s88,s89,s90,s91,s92,s93,s94,s95,s96,s97,s98,s99,s100,s101,s102,s103,s104,s105,s106,s107,s108,s109,s110,s111,s112,s113,s114,s115,s116,s117,s118],defers := [] } W)
  (hRt : gl ≠ items → ∀ (W : World) (s0 s1 s2 s3 s4 s5 s6 s7 s8 s9 s13 s14 s15 s16 s17 s18 s19 s20 s21 s22 s23 s24 s25 s26 s27 s28 s29 s30 s31 s32 s33 s34 s35 s36 s37 s38 s39 s40 s41 s42 s43 s44 s45 s46 s47 s48 s49 s50 s51 s52 s53 s54 s55 s56 s57 s58 s59 s60 s61 s62 s63 s64 s65 s66 s67 s68 s69 s70 s71 s72 s73 s74 s75 s76 s77 s78 s79 s80 s81 s82 s83 s84 s85 s86 s87 s88 s89 s90 s91 s92 s93 s94 s95 s96 s97 s98 s99 s100 s101 s102 s103 s104 s105 s106 s107 s108 s109 s110 s111 s112 s113 s114 s115 s116 s117 s118 : Value),Below W0.heap.size W0 W → Q .ret { tmps:=#[s0,s1,s2,s3,s4,s5,s6,s7,s8,s9,.slice none 0 0,.string ⟨#[]⟩,.int .i64 130,s13,s14,s15,s16,s17,s18,s19,s20,s21,s22,s23,s24,s25,s26,s27,s28,s29,s30,s31,s32,s33,s34,s35,s36,s37,s38,s39,s40,s41,s42,s43,s44,s45,s46,s47,s48,s49,s50,s51,s52,s53,s54,s55,s56,s57,s58,s59,s60,s61,s62,s63,s64,s65,s66,s67,s68,s69,s70,s71,s72,s73,s74,s75,s76,s77,s78,s79,s80,s81,s82,s83,s84,s85,s86,s87,s88,s89,s90,s91,s92,s93,s94,s95,s96,s97,s98,s99,s100,s101,s102,s103,s104,s105,s106,s107,s108,s109,s110,s111,s112,s113,s114,s115,s116,s117,s118],defers := [] } W)
  (s0 s1 s2 s3 s4 s5 s6 s7 s8 s10 s11 s12 s15 s16 s17 s18 s19 s20 s21 s22 s23 s24 s25 s26 s27 s28 s29 s30 s31 s32 s33 s34 s35 s36 s37 s38 s39 s40 s41 s42 s43 s44 s45 s46 s47 s48 s49 s50 s51 s52 s53 s54 s55 s56 s57 s58 s59 s60 s61 s62 s63 s64 s65 s66 s67 s68 s69 s70 s71 s72 s73 s74 s75 s76 s77 s78 s79 s80 s81 s82 s83 s84 s85 s86 s87 s88 s89 s90 s91 s92 s93 s94 s95 s96 s97 s98 s99 s100 s101 s102 s103 s104 s105 s106 s107 s108 s109 s110 s111 s112 s113 s114 s115 s116 s117 s118 : Value) :
  Code.wp Tryz.prog (.loop (loopAt Tryz.f10 0)) Q { tmps:=#[s0,s1,s2,s3,s4,s5,s6,s7,s8,.pointer (some ⟨bp,0,none⟩),s10,s11,s12,.pointer (some ⟨gb,0,none⟩),.int .i64 0,s15,s16,s17,s18,s19,s20,s21,s22,s23,s24,s25,s26,s27,s28,s29,s30,s31,s32,s33,s34,s35,s36,s37,s38,s39,s40,s41,s42,s43,s44,s45,s46,s47,s48,s49,s50,s51,s52,s53,s54,s55,s56,s57,s58,s59,s60,s61,s62,s63,s64,s65,s66,s67,s68,s69,s70,s71,s72,s73,s74,s75,s76,s77,s78,s79,s80,s81,s82,s83,s84,s85,s86,s87,s88,s89,s90,s91,s92,s93,s94,s95,s96,s97,s98,s99,s100,s101,s102,s103,s104,s105,s106,s107,s108,s109,s110,s111,s112,s113,s114,s115,s116,s117,s118],defers := [] } W0:=by
 have HQ:=Lib.hid hQ
 have HRt:=Lib.hid hRt
 have F0:=Lib.hid hL
 have HR : Hid (Reads W0 W0.heap.size 2 A gl.length (icells gl) ∧ Reads W0 W0.heap.size 2 A' items.length (icells items)):=Lib.hid ⟨by rw [hgn]; exact hg,by rw [hin]; exact hi⟩
 have HE:=Lib.hid (And.intro hgn (And.intro hin hn))
 clear hQ hRt hL hg hi
 refine wp_loop_ghost_k (fun k a wr => ∀ Φ : Act → Prop,(∀ (s0 s1 s2 s3 s4 s5 s6 s7 s8 s10 s11 s12 s15 s16 s17 s18 s19 s20 s21 s22 s23 s24 s25 s26 s27 s28 s29 s30 s31 s32 s33 s34 s35 s36 s37 s38 s39 s40 s41 s42 s43 s44 s45 s46 s47 s48 s49 s50 s51 s52 s53 s54 s55 s56 s57 s58 s59 s60 s61 s62 s63 s64 s65 s66 s67 s68 s69 s70 s71 s72 s73 s74 s75 s76 s77 s78 s79 s80 s81 s82 s83 s84 s85 s86 s87 s88 s89 s90 s91 s92 s93 s94 s95 s96 s97 s98 s99 s100 s101 s102 s103 s104 s105 s106 s107 s108 s109 s110 s111 s112 s113 s114 s115 s116 s117 s118 : Value) (i : Nat),(i + k = n ∧ gl.take i = items.take i ∧ Live w wr ((gb,91,#[.slice A n c,.slice B 0 d,.bool true]) :: (bp,27,#[.slice A' n c',.string ⟨nx.toArray⟩,.slice B' n' d']) :: L) ∧ Below W0.heap.size W0 wr) → Φ { tmps:=#[s0,s1,s2,s3,s4,s5,s6,s7,s8,.pointer (some ⟨bp,0,none⟩),s10,s11,s12,.pointer (some ⟨gb,0,none⟩),.int .i64 (i : Int),s15,s16,s17,s18,s19,s20,s21,s22,s23,s24,s25,s26,s27,s28,s29,s30,s31,s32,s33,s34,s35,s36,s37,s38,s39,s40,s41,s42,s43,s44,s45,s46,s47,s48,s49,s50,s51,s52,s53,s54,s55,s56,s57,s58,s59,s60,s61,s62,s63,s64,s65,s66,s67,s68,s69,s70,s71,s72,s73,s74,s75,s76,s77,s78,s79,s80,s81,s82,s83,s84,s85,s86,s87,s88,s89,s90,s91,s92,s93,s94,s95,s96,s97,s98,s99,s100,s101,s102,s103,s104,s105,s106,s107,s108,s109,s110,s111,s112,s113,s114,s115,s116,s117,s118],defers := [] }) → Φ a) (n) ?_ ?_
 ·refine fun Φ hΦ=>hΦ _ _ _ _ _ _ _ _ _ _ _ _ _ _ _ _ _ _ _ _ _ _ _ _ _ _ _ _ _ _ _ _ _ _ _ _ _ _ _ _ _ _ _ _ _ _ _ _ _ _ _ _ _ _ _ _ _ _ _ _ _ _ _ _ _ _ _ _ _ _ _ _ _ _ _ _ _ _ _ _ _ _ _ _ _ _ _ _ _ _ _ _ _ _ _ _ _ _ _ _ _ _ _ _ _ _ _ _ _ _ _ _ _ _ _ _ (0) ?_
  exact ⟨by omega,by simp,F0.out,Below.refl _ _⟩
 ·intro k1 a1 wr1 hI1 J1 K1 hJ1 hK1
  refine hI1 (fun a=>Code.wp _ _ _ a _) ?_
  clear hI1 a1
  intro s0 s1 s2 s3 s4 s5 s6 s7 s8 s9 s10 s11 s12 s13 s14 s15 s16 s17 s18 s19 s20 s21 s22 s23 s24 s25 s26 s27 s28 s29 s30 s31 s32 s33 s34 s35 s36 s37 s38 s39 s40 s41 s42 s43 s44 s45 s46 s47 s48 s49 s50 s51 s52 s53 s54 s55 s56 s57 s58 s59 s60 s61 s62 s63 s64 s65 s66 s67 s68 s69 s70 s71 s72 s73 s74 s75 s76 s77 s78 s79 s80 s81 s82 s83 s84 s85 s86 s87 s88 s89 s90 s91 s92 s93 s94 s95 s96 s97 s98 s99 s100 s101 s102 s103 s104 s105 s106 s107 s108 s109 s110 s111 s112 s113 s114 s115 i hrel
  show Code.wp _ _ _ _ _
  conv=>arg 2; whnf
  obtain ⟨h1,h2,hl,hbw⟩:=hrel
  have FZ:=Lib.hid hl
  have BZ:=Lib.hid hbw
  clear hl hbw
  have k0_0 : wr1.cell? ⟨gb,0,none⟩ = some (.slice A n c):=FZ.out.cell 0 0 rfl rfl; have k0_1 : wr1.cell? ⟨gb,1,none⟩ = some (.slice B 0 d):=FZ.out.cell 0 1 rfl rfl; have k0_2 : wr1.cell? ⟨gb,2,none⟩ = some (.bool true):=FZ.out.cell 0 2 rfl rfl
  have k1_0 : wr1.cell? ⟨bp,0,none⟩ = some (.slice A' n c'):=FZ.out.cell 1 0 rfl rfl; have k1_1 : wr1.cell? ⟨bp,1,none⟩ = some (.string ⟨nx.toArray⟩):=FZ.out.cell 1 1 rfl rfl; have k1_2 : wr1.cell? ⟨bp,2,none⟩ = some (.slice B' n' d'):=FZ.out.cell 1 2 rfl rfl
  by_cases hlt : i < n
  ·have hlt1 : (i : Int) < n:=by omega
   have hix : (0 : Int) ≤ i:=by omega
   have hbig : (i : Int) < 100000:=by omega
   obtain ⟨b1,o1,rfl,hl1,hc1⟩:=item_cells HR.out.1 (i:=i) (by omega)
   obtain ⟨b2,o2,rfl,hl2,hc2⟩:=item_cells HR.out.2 (i:=i) (by omega)
   have HT0 : (gl[i]'(by omega)) = (items[i]'(by omega)) → gl.take (i + 1) = items.take (i + 1):=fun e=>by
    rw [List.take_succ_eq_append_getElem (by omega),List.take_succ_eq_append_getElem (by omega),h2,e]
   have HNe0 : (gl[i]'(by omega)) ≠ (items[i]'(by omega)) → gl ≠ items:=fun e h=>e (by subst h; rfl)
   obtain ⟨x,hx⟩ : ∃ x,gl[i]'(by omega) = x:=⟨_,rfl⟩
   obtain ⟨y,hy⟩ : ∃ y,items[i]'(by omega) = y:=⟨_,rfl⟩
   rw [hx] at hc1 HT0 HNe0
   rw [hy] at hc2 HT0 HNe0
   have g1 : wr1.cell? ⟨b1,o1 + i * 2,none⟩ = some (.string ⟨x.1.toArray⟩):=(hc1 _ BZ.out).1
   have g1b : wr1.cell? ⟨b1,o1 + i * 2 + 1,none⟩ = some (.string ⟨x.2.toArray⟩):=(hc1 _ BZ.out).2
   have g2 : wr1.cell? ⟨b2,o2 + i * 2,none⟩ = some (.string ⟨y.1.toArray⟩):=(hc2 _ BZ.out).1
   have g2b : wr1.cell? ⟨b2,o2 + i * 2 + 1,none⟩ = some (.string ⟨y.2.toArray⟩):=(hc2 _ BZ.out).2
   have EQ:=fun w=>it_run w x y
   have HT:=Lib.hid HT0
   have HNe:=Lib.hid HNe0
   have H1:=Lib.hid h1
   clear hc1 hc2 h2 HT0 HNe0 hx hy
   clear hgn hin h1 hlt
   by_cases hxy : x = y
   ·subst hxy
    rw [beq_self_eq_true] at EQ
    have HT:=Lib.hid (HT.out rfl)
    clear HNe
    go_wp2_with fail
    go_quiet (fail)
    go_wp2_with fail
    refine Handed.intro (n - (i + 1)) ?_ (hJ1 _ _ _ (fun Φ hΦ=>hΦ _ _ _ _ _ _ _ _ _ _ _ _ _ _ _ _ _ _ _ _ _ _ _ _ _ _ _ _ _ _ _ _ _ _ _ _ _ _ _ _ _ _ _ _ _ _ _ _ _ _ _ _ _ _ _ _ _ _ _ _ _ _ _ _ _ _ _ _ _ _ _ _ _ _ _ _ _ _ _ _ _ _ _ _ _ _ _ _ _ _ _ _ _ _ _ _ _ _ _ _ _ _ _ _ _ _ _ _ _ _ _ _ _ _ _ _ (i + 1) ?_))
    ·have:=H1.out; omega
    ·exact ⟨by have:=H1.out; omega,(by first | exact HT.out | exact HT.out trivial),FZ.out.drew _,below_drewN BZ.out _⟩
   ·rw [show (x == y) = false from by rw [beq_eq_false_iff_ne]; exact hxy] at EQ
    have HNe:=Lib.hid (HNe.out hxy)
    clear hxy HT
    go_wp2_with fail
    go_quiet (fail)
    go_wp2_with fail
    exact HRt.out HNe.out _ _ _ _ _ _ _ _ _ _ _ _ _ _ _ _ _ _ _ _ _ _ _ _ _ _ _ _ _ _ _ _ _ _ _ _ _ _ _ _ _ _ _ _ _ _ _ _ _ _ _ _ _ _ _ _ _ _ _ _ _ _ _ _ _ _ _ _ _ _ _ _ _ _ _ _ _ _ _ _ _ _ _ _ _ _ _ _ _ _ _ _ _ _ _ _ _ _ _ _ _ _ _ _ _ _ _ _ _ _ _ _ _ _ _ _ _ (below_drewN BZ.out _)
  ·have en : i = n:=by omega
   subst en
   have e : gl = items:=by rwa [List.take_of_length_le (by omega),List.take_of_length_le (by omega)] at h2
   have E:=Lib.hid e
   clear e h2 h1 hgn hin
   go_wp2_with fail
   exact HQ.out E.out _ _ _ _ _ _ _ _ _ _ _ _ _ _ _ _ _ _ _ _ _ _ _ _ _ _ _ _ _ _ _ _ _ _ _ _ _ _ _ _ _ _ _ _ _ _ _ _ _ _ _ _ _ _ _ _ _ _ _ _ _ _ _ _ _ _ _ _ _ _ _ _ _ _ _ _ _ _ _ _ _ _ _ _ _ _ _ _ _ _ _ _ _ _ _ _ _ _ _ _ _ _ _ _ _ _ _ _ _ _ _ _ _ _ _ _ _ _ BZ.out
end Go.Proofs.YtomnlhbioijfhaaGreatDoor
