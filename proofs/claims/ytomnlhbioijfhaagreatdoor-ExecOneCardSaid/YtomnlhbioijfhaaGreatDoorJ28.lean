import Derived.Test.YtomnlhbioijfhaaGreatDoorJ27
import Derived.Test.YtomnlhbioijfhaaGreatDoorJ23
import Derived.Test.YtomnlhbioijfhaaGreatDoorJ19
import Derived.Test.YtomnlhbioijfhaaGreatDoorJ21
set_option linter.unusedSimpArgs false
set_option linter.unusedVariables false
namespace Go.Proofs.YtomnlhbioijfhaaGreatDoor
open Go.RowKit Go.Instr
attribute [local go_sem] ba_get ByteArray.mk_append_mk
attribute [local go_sem ↓] Go.wp_at_zero Go.wp_at_succ
abbrev TxM:=Ex.Tx × Option Addr × Nat
def xcell (p : TxM) : List Value := [.int .i64 p.1.kind,.string ⟨p.1.frm.toArray⟩,.int .i64 p.1.seq,.string ⟨p.1.dst.toArray⟩,.int .i64 p.1.amt,.string ⟨p.1.key.toArray⟩,.string ⟨p.1.val.toArray⟩,.slice p.2.1 p.1.mem.length p.2.2]
abbrev xcells (l : List TxM) : List Value:=l.flatMap xcell
theorem xcell_len (p : TxM) : (xcell p).length = 8:=rfl
structure OkT (x : Ex.Tx) : Prop where
 f : x.frm.length ≤ 9223372036854775807
 d : x.dst.length ≤ 9223372036854775807
 k : x.key.length ≤ 9223372036854775807
 v : x.val.length ≤ 9223372036854775807
 m : ∀ y ∈ x.mem,y.1.length ≤ 9223372036854775807
structure TxsAt (w : World) (A : Option Addr) (l : List TxM) : Prop where
 r : Reads w w.heap.size 8 A l.length (xcells l)
 m : ∀ p ∈ l,Reads w w.heap.size 2 p.2.1 p.1.mem.length (mcells p.1.mem)
 t : ∀ p ∈ l,OkT p.1
 n : l.length ≤ 9223372036854775807
theorem TxsAt.next {w w' : World} {A : Option Addr} {l : List TxM} (h : TxsAt w A l) (hb : Below w.heap.size w w') : TxsAt w' A l :=
 ⟨(h.r.below hb).more hb.size,fun p hp=>((h.m p hp).below hb).more hb.size,h.t,h.n⟩
theorem tx_cells {w : World} {B : Nat} {A : Option Addr} {l : List TxM} (h : Reads w B 8 A l.length (xcells l)) {i : Nat} (hi : i < l.length) :
  ∃ ad off,A = some ⟨ad,off,none⟩ ∧ ad < B ∧ ∀ W,Below B w W →
   W.cell? ⟨ad,off + i * 8,none⟩ = some (.int .i64 l[i].1.kind) ∧ W.cell? ⟨ad,off + i * 8 + 1,none⟩ = some (.string ⟨l[i].1.frm.toArray⟩) ∧ W.cell? ⟨ad,off + i * 8 + 2,none⟩ = some (.int .i64 l[i].1.seq) ∧
   W.cell? ⟨ad,off + i * 8 + 3,none⟩ = some (.string ⟨l[i].1.dst.toArray⟩) ∧ W.cell? ⟨ad,off + i * 8 + 4,none⟩ = some (.int .i64 l[i].1.amt) ∧ W.cell? ⟨ad,off + i * 8 + 5,none⟩ = some (.string ⟨l[i].1.key.toArray⟩) ∧
   W.cell? ⟨ad,off + i * 8 + 6,none⟩ = some (.string ⟨l[i].1.val.toArray⟩) ∧ W.cell? ⟨ad,off + i * 8 + 7,none⟩ = some (.slice l[i].2.1 l[i].1.mem.length l[i].2.2):=by
 obtain ⟨ad,off,h1,h2,h3⟩:=flat_cells xcell_len (by decide) h hi
 exact ⟨ad,off,h1,h2,fun W hW=>⟨h3 W hW 0 _ rfl,h3 W hW 1 _ rfl,h3 W hW 2 _ rfl,h3 W hW 3 _ rfl,h3 W hW 4 _ rfl,h3 W hW 5 _ rfl,h3 W hW 6 _ rfl,h3 W hW 7 _ rfl⟩⟩
theorem icell_cells {w : World} {B : Nat} {A : Option Addr} {l : List Trie.KV} (h : Reads w B 2 A l.length (icells l)) {i : Nat} (hi : i < l.length) :
  ∃ ad off,A = some ⟨ad,off,none⟩ ∧ ad < B ∧ ∀ W,Below B w W → W.cell? ⟨ad,off + i * 2,none⟩ = some (.string ⟨l[i].1.toArray⟩) ∧ W.cell? ⟨ad,off + i * 2 + 1,none⟩ = some (.string ⟨l[i].2.toArray⟩):=by
 obtain ⟨ad,off,h1,h2,h3⟩:=h.form (by omega) (by decide)
 refine ⟨ad,off,h1,h2,fun W hW => ?_⟩
 have g1 : ∀ j v,(icells l)[j]? = some v → W.cell? ⟨ad,off + j,none⟩ = some v:=fun j v hv=>by
  obtain ⟨h4,h5⟩:=List.getElem?_eq_some_iff.1 hv
  rw [hW.cell (p:=⟨ad,off + j,none⟩) h2,h3 j h4,h5]
 obtain ⟨q1,q2⟩:=icells_at (l:=l) (i:=i) hi
 exact ⟨by rw [Nat.mul_comm]; exact g1 _ _ q1,by rw [Nat.mul_comm,Nat.add_assoc]; exact g1 _ _ q2⟩
structure StartAt (w : World) (A : Option Addr) (l : List Ex.Ac) (B : Option Addr) (set : List Pw.Mem) (C : Option Addr) (its : List Trie.KV) : Prop where
 a : Reads w w.heap.size 3 A l.length (acells l)
 s : Reads w w.heap.size 2 B set.length (mcells set)
 i : Reads w w.heap.size 2 C its.length (icells its)
 al : ∀ x ∈ l,x.1.length ≤ 9223372036854775807
 sl : ∀ x ∈ set,x.1.length ≤ 9223372036854775807
 il : ∀ x ∈ its,x.1.length ≤ 9223372036854775807 ∧ x.2.length ≤ 9223372036854775807
 n : l.length ≤ 9223372036854775807 ∧ its.length ≤ 9223372036854775807
theorem StartAt.next {w w' : World} {A B C : Option Addr} {l : List Ex.Ac} {set : List Pw.Mem} {its : List Trie.KV} (h : StartAt w A l B set C its) (hb : Below w.heap.size w w') : StartAt w' A l B set C its :=
 ⟨(h.a.below hb).more hb.size,(h.s.below hb).more hb.size,(h.i.below hb).more hb.size,h.al,h.sl,h.il,h.n⟩
def okBig (p : TxM) : Prop:=p.1.frm.length ≤ 100 ∧ p.1.dst.length ≤ 100 ∧ p.1.key.length ≤ 100 ∧ p.1.val.length ≤ 100 ∧ p.1.mem.length ≤ 100
def okItem (x : Trie.KV) : Prop:=x.1.length ≤ 100 ∧ x.2.length ≤ 100
def Big16End (w : World) (l : List Ex.Ac) (set : List Pw.Mem) (its : List Trie.KV) (L : List TxM) (e : Ending) (w' : World) : Prop :=
 ∃ b,e = .returned (.bool b) ∧ Below w.heap.size w w' ∧ (b = false → (l.length ≤ 20 ∧ its.length ≤ 20 ∧ set.length ≤ 100 ∧ L.length ≤ 20) ∧ (∀ x ∈ its,okItem x) ∧ (∀ p ∈ L,okBig p))
theorem take_all {α : Type} {Q : α → Prop} {l : List α} {i : Nat} (hi : i < l.length) (h : ∀ x ∈ l.take i,Q x) (hx : Q l[i]) : ∀ x ∈ l.take (i + 1),Q x:=fun x hm=>by
 rw [List.take_succ_eq_append_getElem hi] at hm
 rcases List.mem_append.1 hm with hm | hm
 ·exact h x hm
 ·rw [List.mem_singleton] at hm; subst hm; exact hx
set_option maxRecDepth 100000 in
set_option maxHeartbeats 4000000 in
theorem law16_big (w : World) (A : Option Addr) (c : Nat) (l : List Ex.Ac) (B : Option Addr) (d : Nat) (set : List Pw.Mem) (C : Option Addr) (e0 : Nat) (its : List Trie.KV) (h : StartAt w A l B set C its) (D : Option Addr) (f : Nat) (L : List TxM) (HL : TxsAt w D L) :
  Calls Tryz.prog 14 #[.agg #[.slice A l.length c,.slice B set.length d,.slice C its.length e0],.slice D L.length f] w (Big16End w l set its L):=by
 have HPt : Hid (∀ w',Below w.heap.size w w' → Big16End w l set its L (.returned (.bool true)) w'):=Lib.hid (fun w' h=>⟨true,rfl,h,fun e=>by cases e⟩)
 have HPf : Hid (∀ w',Below w.heap.size w w' → l.length ≤ 20 → its.length ≤ 20 → set.length ≤ 100 → L.length ≤ 20 → (∀ x ∈ its,okItem x) → (∀ p ∈ L,okBig p) → Big16End w l set its L (.returned (.bool false)) w'):=Lib.hid (fun w' h h1 h2 h3 h4 h5 h6=>⟨false,rfl,h,fun _=>⟨⟨h1,h2,h3,h4⟩,h5,h6⟩⟩)
 generalize Big16End w l set its L = P at HPt HPf ⊢
 go_enter Tryz.func14,Tryz.ntmps14
 go_upto_region 1 with fail
 have F0:=Live.ha (Lib.hid (Live.start w)) #[.slice A l.length c,.slice B set.length d,.slice C its.length e0] 41
 generalize w.alloc (.cells #[.slice A l.length c,.slice B set.length d,.slice C its.length e0] 41) = W0 at F0 ⊢
 generalize w.heap.size = sb at F0 ⊢
 have HS:=Lib.hid (h.next F0.out.b)
 have HX:=Lib.hid (HL.next F0.out.b)
 have HLen:=Lib.hid (And.intro h.al (And.intro h.il HL.t))
 have HNn:=Lib.hid (And.intro h.n HL.n)
 clear h HL
 have k0_0 : W0.cell? ⟨sb,0,none⟩ = some (.slice A l.length c):=F0.out.cell 0 0 rfl rfl; have k0_1 : W0.cell? ⟨sb,1,none⟩ = some (.slice B set.length d):=F0.out.cell 0 1 rfl rfl; have k0_2 : W0.cell? ⟨sb,2,none⟩ = some (.slice C its.length e0):=F0.out.cell 0 2 rfl rfl
 go_wp2_with fail
 refine wp_loop_ghost_k (fun k a wr => ∀ Φ : Act → Prop,(∀ (s0 s3 s4 s6 s7 s8 s9 s10 s11 s12 s13 s14 s15 s16 s17 s18 s19 s20 s21 s22 s23 s24 s25 s26 s27 s28 s29 s30 s31 s32 s33 s34 s35 s36 s37 s38 s39 s40 s41 s42 s43 s44 s45 s46 s47 s48 s49 s50 s51 s52 s53 s54 s55 s56 s57 s58 s59 s60 s61 s62 s63 s64 s65 s66 s67 s68 s69 s70 s71 s72 s73 s74 s75 s76 s77 s78 s79 s80 s81 s82 s83 s84 s85 s86 s87 s88 s89 s90 s91 s92 s93 s94 s95 s96 s97 s98 s99 s100 s101 s102 s103 s104 s105 s106 s107 s108 s109 s110 s111 s112 s113 s114 s115 s116 s117 : Value) (i : Nat),(i + k = l.length ∧ wr = W0) → Φ { tmps:=#[s0,.slice D L.length f,.pointer (some ⟨sb,0,none⟩),s3,s4,.int .i64 (i : Int),s6,s7,s8,s9,s10,s11,s12,s13,s14,s15,s16,s17,s18,s19,s20,s21,s22,s23,s24,s25,s26,s27,s28,s29,s30,s31,s32,s33,s34,s35,s36,s37,s38,s39,s40,s41,s42,s43,s44,s45,s46,s47,s48,s49,s50,s51,s52,s53,s54,s55,s56,s57,s58,s59,s60,s61,s62,s63,s64,s65,s66,s67,s68,s69,s70,s71,s72,s73,s74,s75,s76,s77,s78,s79,s80,s81,s82,s83,s84,s85,s86,s87,s88,s89,s90,s91,s92,s93,s94,s95,s96,s97,s98,s99,s100,s101,s102,s103,s104,s105,s106,s107,s108,s109,s110,s111,s112,s113,s114,s115,s116,s117],defers := [] }) → Φ a) (l.length) ?_ ?_
 ·refine fun Φ hΦ=>hΦ _ _ _ _ _ _ _ _ _ _ _ _ _ _ _ _ _ _ _ _ _ _ _ _ _ _ _ _ _ _ _ _ _ _ _ _ _ _ _ _ _ _ _ _ _ _ _ _ _ _ _ _ _ _ _ _ _ _ _ _ _ _ _ _ _ _ _ _ _ _ _ _ _ _ _ _ _ _ _ _ _ _ _ _ _ _ _ _ _ _ _ _ _ _ _ _ _ _ _ _ _ _ _ _ _ _ _ _ _ _ _ _ _ _ _ (0) ?_
  exact ⟨by omega,rfl⟩
 ·intro k1 a1 wr1 hI1 J1 K1 hJ1 hK1
  refine hI1 (fun a=>Code.wp _ _ _ a _) ?_
  clear hI1 a1
  intro s0 s1 s2 s3 s4 s5 s6 s7 s8 s9 s10 s11 s12 s13 s14 s15 s16 s17 s18 s19 s20 s21 s22 s23 s24 s25 s26 s27 s28 s29 s30 s31 s32 s33 s34 s35 s36 s37 s38 s39 s40 s41 s42 s43 s44 s45 s46 s47 s48 s49 s50 s51 s52 s53 s54 s55 s56 s57 s58 s59 s60 s61 s62 s63 s64 s65 s66 s67 s68 s69 s70 s71 s72 s73 s74 s75 s76 s77 s78 s79 s80 s81 s82 s83 s84 s85 s86 s87 s88 s89 s90 s91 s92 s93 s94 s95 s96 s97 s98 s99 s100 s101 s102 s103 s104 s105 s106 s107 s108 s109 s110 s111 s112 s113 s114 i hrel
  show Code.wp _ _ _ _ _
  obtain ⟨h1,rfl⟩:=hrel
  have HI:=Lib.hid h1
  by_cases hi : i < l.length
  ·obtain ⟨ad,off,rfl,hbl,hcell⟩:=ac_cells HS.out.a hi
   obtain ⟨r0,_,_⟩:=hcell _ (Below.refl _ _)
   have hi1 : (i : Int) < l.length:=by omega
   have hi0 : (0 : Int) ≤ i:=by omega
   have hi9 : (i : Int) < 9223372036854775807:=by have:=HNn.out.1.1; omega
   have hlen:=HLen.out.1 _ (List.getElem_mem hi)
   clear hcell hbl h1
   generalize l[i] = x at *
   by_cases g : 100 < x.1.length
   ·have g' : (100 : Int) < x.1.length:=by omega
    clear g
    go_wp2_with fail
    exact HPt.out _ F0.out.b
   ·have g' : ((100 : Int) < x.1.length) = False:=by simp; omega
    clear g
    go_wp2_with fail
    refine Handed.intro (l.length - (i + 1)) ?_ (hJ1 _ _ _ (fun Φ hΦ=>hΦ _ _ _ _ _ _ _ _ _ _ _ _ _ _ _ _ _ _ _ _ _ _ _ _ _ _ _ _ _ _ _ _ _ _ _ _ _ _ _ _ _ _ _ _ _ _ _ _ _ _ _ _ _ _ _ _ _ _ _ _ _ _ _ _ _ _ _ _ _ _ _ _ _ _ _ _ _ _ _ _ _ _ _ _ _ _ _ _ _ _ _ _ _ _ _ _ _ _ _ _ _ _ _ _ _ _ _ _ _ _ _ _ _ _ _ (i + 1) ?_))
    ·have:=HI.out; omega
    exact ⟨by have:=HI.out; omega,rfl⟩
  ·have hi1 : ((i : Int) < l.length) = False:=by simp; omega
   clear hi h1 HI
   go_wp2_with fail
   refine wp_loop_ghost_k (fun k a wr => ∀ Φ : Act → Prop,(∀ (s0 s3 s4 s5 s7 s8 s9 s10 s11 s12 s13 s14 s15 s16 s17 s18 s19 s20 s21 s22 s23 s24 s25 s26 s27 s28 s29 s30 s31 s32 s33 s34 s35 s36 s37 s38 s39 s40 s41 s42 s43 s44 s45 s46 s47 s48 s49 s50 s51 s52 s53 s54 s55 s56 s57 s58 s59 s60 s61 s62 s63 s64 s65 s66 s67 s68 s69 s70 s71 s72 s73 s74 s75 s76 s77 s78 s79 s80 s81 s82 s83 s84 s85 s86 s87 s88 s89 s90 s91 s92 s93 s94 s95 s96 s97 s98 s99 s100 s101 s102 s103 s104 s105 s106 s107 s108 s109 s110 s111 s112 s113 s114 s115 s116 s117 : Value) (i : Nat),(i + k = its.length ∧ (∀ x ∈ its.take i,okItem x) ∧ wr = wr1) → Φ { tmps:=#[s0,.slice D L.length f,.pointer (some ⟨sb,0,none⟩),s3,s4,s5,.int .i64 (i : Int),s7,s8,s9,s10,s11,s12,s13,s14,s15,s16,s17,s18,s19,s20,s21,s22,s23,s24,s25,s26,s27,s28,s29,s30,s31,s32,s33,s34,s35,s36,s37,s38,s39,s40,s41,s42,s43,s44,s45,s46,s47,s48,s49,s50,s51,s52,s53,s54,s55,s56,s57,s58,s59,s60,s61,s62,s63,s64,s65,s66,s67,s68,s69,s70,s71,s72,s73,s74,s75,s76,s77,s78,s79,s80,s81,s82,s83,s84,s85,s86,s87,s88,s89,s90,s91,s92,s93,s94,s95,s96,s97,s98,s99,s100,s101,s102,s103,s104,s105,s106,s107,s108,s109,s110,s111,s112,s113,s114,s115,s116,s117],defers := [] }) → Φ a) (its.length) ?_ ?_
   ·refine fun Φ hΦ=>hΦ _ _ _ _ _ _ _ _ _ _ _ _ _ _ _ _ _ _ _ _ _ _ _ _ _ _ _ _ _ _ _ _ _ _ _ _ _ _ _ _ _ _ _ _ _ _ _ _ _ _ _ _ _ _ _ _ _ _ _ _ _ _ _ _ _ _ _ _ _ _ _ _ _ _ _ _ _ _ _ _ _ _ _ _ _ _ _ _ _ _ _ _ _ _ _ _ _ _ _ _ _ _ _ _ _ _ _ _ _ _ _ _ _ _ _ (0) ?_
    exact ⟨by omega,by simp,rfl⟩
   ·intro k2 a2 wr2 hI2 J2 K2 hJ2 hK2
    refine hI2 (fun a=>Code.wp _ _ _ a _) ?_
    clear hI2 a2
    intro s0 s1 s2 s3 s4 s5 s6 s7 s8 s9 s10 s11 s12 s13 s14 s15 s16 s17 s18 s19 s20 s21 s22 s23 s24 s25 s26 s27 s28 s29 s30 s31 s32 s33 s34 s35 s36 s37 s38 s39 s40 s41 s42 s43 s44 s45 s46 s47 s48 s49 s50 s51 s52 s53 s54 s55 s56 s57 s58 s59 s60 s61 s62 s63 s64 s65 s66 s67 s68 s69 s70 s71 s72 s73 s74 s75 s76 s77 s78 s79 s80 s81 s82 s83 s84 s85 s86 s87 s88 s89 s90 s91 s92 s93 s94 s95 s96 s97 s98 s99 s100 s101 s102 s103 s104 s105 s106 s107 s108 s109 s110 s111 s112 s113 s114 i hrel
    show Code.wp _ _ _ _ _
    obtain ⟨h1,h2,rfl⟩:=hrel
    have HI:=Lib.hid (And.intro h1 h2)
    by_cases hi : i < its.length
    ·obtain ⟨ad,off,rfl,hbl,hcell⟩:=icell_cells HS.out.i hi
     obtain ⟨r0,r1⟩:=hcell _ (Below.refl _ _)
     have hi1 : (i : Int) < its.length:=by omega
     have hi0 : (0 : Int) ≤ i:=by omega
     have hi9 : (i : Int) < 9223372036854775807:=by have:=HNn.out.1.2; omega
     have hlen:=HLen.out.2.1 _ (List.getElem_mem hi)
     have HSt:=Lib.hid (take_all (Q:=okItem) hi h2)
     clear hcell hbl h1 h2
     generalize its[i] = x at *
     by_cases g : 100 < x.1.length
     ·have g' : (100 : Int) < x.1.length:=by omega
      clear g
      go_wp2_with fail
      exact HPt.out _ F0.out.b
     have g' : ((100 : Int) < x.1.length) = False:=by simp; omega
     by_cases k : 100 < x.2.length
     ·have k' : (100 : Int) < x.2.length:=by omega
      clear g k
      go_wp2_with fail
      exact HPt.out _ F0.out.b
     have k' : ((100 : Int) < x.2.length) = False:=by simp; omega
     have HSn:=Lib.hid (HSt.out ⟨by omega,by omega⟩)
     clear g k
     go_wp2_with fail
     refine Handed.intro (its.length - (i + 1)) ?_ (hJ2 _ _ _ (fun Φ hΦ=>hΦ _ _ _ _ _ _ _ _ _ _ _ _ _ _ _ _ _ _ _ _ _ _ _ _ _ _ _ _ _ _ _ _ _ _ _ _ _ _ _ _ _ _ _ _ _ _ _ _ _ _ _ _ _ _ _ _ _ _ _ _ _ _ _ _ _ _ _ _ _ _ _ _ _ _ _ _ _ _ _ _ _ _ _ _ _ _ _ _ _ _ _ _ _ _ _ _ _ _ _ _ _ _ _ _ _ _ _ _ _ _ _ _ _ _ _ (i + 1) ?_))
     ·have:=HI.out.1; omega
     exact ⟨by have:=HI.out.1; omega,HSn.out,rfl⟩
    ·have hi1 : ((i : Int) < its.length) = False:=by simp; omega
     have HIt : Hid (∀ x ∈ its,okItem x):=Lib.hid (by rw [List.take_of_length_le (by omega)] at h2; exact h2)
     clear hi h1 h2 HI
     go_wp2_with fail
     refine wp_loop_ghost_k (fun k a wr => ∀ Φ : Act → Prop,(∀ (s0 s3 s4 s5 s6 s8 s9 s10 s11 s12 s13 s14 s15 s16 s17 s18 s19 s20 s21 s22 s23 s24 s25 s26 s27 s28 s29 s30 s31 s32 s33 s34 s35 s36 s37 s38 s39 s40 s41 s42 s43 s44 s45 s46 s47 s48 s49 s50 s51 s52 s53 s54 s55 s56 s57 s58 s59 s60 s61 s62 s63 s64 s65 s66 s67 s68 s69 s70 s71 s72 s73 s74 s75 s76 s77 s78 s79 s80 s81 s82 s83 s84 s85 s86 s87 s88 s89 s90 s91 s92 s93 s94 s95 s96 s97 s98 s99 s100 s101 s102 s103 s104 s105 s106 s107 s108 s109 s110 s111 s112 s113 s114 s115 s116 s117 : Value) (i : Nat),(i + k = L.length ∧ (∀ x ∈ L.take i,okBig x) ∧ wr = wr2) → Φ { tmps:=#[s0,.slice D L.length f,.pointer (some ⟨sb,0,none⟩),s3,s4,s5,s6,.int .i64 (i : Int),s8,s9,s10,s11,s12,s13,s14,s15,s16,s17,s18,s19,s20,s21,s22,s23,s24,s25,s26,s27,s28,s29,s30,s31,s32,s33,s34,s35,s36,s37,s38,s39,s40,s41,s42,s43,s44,s45,s46,s47,s48,s49,s50,s51,s52,s53,s54,s55,s56,s57,s58,s59,s60,s61,s62,s63,s64,s65,s66,s67,s68,s69,s70,s71,s72,s73,s74,s75,s76,s77,s78,s79,s80,s81,s82,s83,s84,s85,s86,s87,s88,s89,s90,s91,s92,s93,s94,s95,s96,s97,s98,s99,s100,s101,s102,s103,s104,s105,s106,s107,s108,s109,s110,s111,s112,s113,s114,s115,s116,s117],defers := [] }) → Φ a) (L.length) ?_ ?_
     ·refine fun Φ hΦ=>hΦ _ _ _ _ _ _ _ _ _ _ _ _ _ _ _ _ _ _ _ _ _ _ _ _ _ _ _ _ _ _ _ _ _ _ _ _ _ _ _ _ _ _ _ _ _ _ _ _ _ _ _ _ _ _ _ _ _ _ _ _ _ _ _ _ _ _ _ _ _ _ _ _ _ _ _ _ _ _ _ _ _ _ _ _ _ _ _ _ _ _ _ _ _ _ _ _ _ _ _ _ _ _ _ _ _ _ _ _ _ _ _ _ _ _ _ (0) ?_
      exact ⟨by omega,by simp,rfl⟩
     ·intro k3 a3 wr3 hI3 J3 K3 hJ3 hK3
      refine hI3 (fun a=>Code.wp _ _ _ a _) ?_
      clear hI3 a3
      intro s0 s1 s2 s3 s4 s5 s6 s7 s8 s9 s10 s11 s12 s13 s14 s15 s16 s17 s18 s19 s20 s21 s22 s23 s24 s25 s26 s27 s28 s29 s30 s31 s32 s33 s34 s35 s36 s37 s38 s39 s40 s41 s42 s43 s44 s45 s46 s47 s48 s49 s50 s51 s52 s53 s54 s55 s56 s57 s58 s59 s60 s61 s62 s63 s64 s65 s66 s67 s68 s69 s70 s71 s72 s73 s74 s75 s76 s77 s78 s79 s80 s81 s82 s83 s84 s85 s86 s87 s88 s89 s90 s91 s92 s93 s94 s95 s96 s97 s98 s99 s100 s101 s102 s103 s104 s105 s106 s107 s108 s109 s110 s111 s112 s113 s114 i hrel
      show Code.wp _ _ _ _ _
      obtain ⟨h1,h2,rfl⟩:=hrel
      have HI:=Lib.hid (And.intro h1 h2)
      by_cases hi : i < L.length
      ·obtain ⟨ad,off,rfl,hbl,hcell⟩:=tx_cells HX.out.r hi
       obtain ⟨_,r1,_,r3,_,r5,r6,r7⟩:=hcell _ (Below.refl _ _)
       have hi1 : (i : Int) < L.length:=by omega
       have hi0 : (0 : Int) ≤ i:=by omega
       have hi9 : (i : Int) < 9223372036854775807:=by have:=HNn.out.2; omega
       obtain ⟨o1,o2,o3,o4,_⟩:=HLen.out.2.2 _ (List.getElem_mem hi)
       have HSt:=Lib.hid (take_all (Q:=okBig) hi h2)
       clear hcell hbl h1 h2
       generalize L[i] = x at *
       by_cases g1 : 100 < x.1.frm.length
       ·have g1' : (100 : Int) < x.1.frm.length:=by omega
        clear g1
        go_wp2_with fail
        exact HPt.out _ F0.out.b
       have g1' : ((100 : Int) < x.1.frm.length) = False:=by simp; omega
       by_cases g2 : 100 < x.1.dst.length
       ·have g2' : (100 : Int) < x.1.dst.length:=by omega
        clear g1 g2
        go_wp2_with fail
        exact HPt.out _ F0.out.b
       have g2' : ((100 : Int) < x.1.dst.length) = False:=by simp; omega
       by_cases g3 : 100 < x.1.key.length
       ·have g3' : (100 : Int) < x.1.key.length:=by omega
        clear g1 g2 g3
        go_wp2_with fail
        exact HPt.out _ F0.out.b
       have g3' : ((100 : Int) < x.1.key.length) = False:=by simp; omega
       by_cases g4 : 100 < x.1.val.length
       ·have g4' : (100 : Int) < x.1.val.length:=by omega
        clear g1 g2 g3 g4
        go_wp2_with fail
        exact HPt.out _ F0.out.b
       have g4' : ((100 : Int) < x.1.val.length) = False:=by simp; omega
       by_cases g5 : 100 < x.1.mem.length
       ·have g5' : (100 : Int) < x.1.mem.length:=by omega
        clear g1 g2 g3 g4 g5
        go_wp2_with fail
        exact HPt.out _ F0.out.b
       have g5' : ((100 : Int) < x.1.mem.length) = False:=by simp; omega
       have HSn:=Lib.hid (HSt.out ⟨by omega,by omega,by omega,by omega,by omega⟩)
       clear g1 g2 g3 g4 g5
       go_wp2_with fail
       refine Handed.intro (L.length - (i + 1)) ?_ (hJ3 _ _ _ (fun Φ hΦ=>hΦ _ _ _ _ _ _ _ _ _ _ _ _ _ _ _ _ _ _ _ _ _ _ _ _ _ _ _ _ _ _ _ _ _ _ _ _ _ _ _ _ _ _ _ _ _ _ _ _ _ _ _ _ _ _ _ _ _ _ _ _ _ _ _ _ _ _ _ _ _ _ _ _ _ _ _ _ _ _ _ _ _ _ _ _ _ _ _ _ _ _ _ _ _ _ _ _ _ _ _ _ _ _ _ _ _ _ _ _ _ _ _ _ _ _ _ (i + 1) ?_))
       ·have:=HI.out.1; omega
       exact ⟨by have:=HI.out.1; omega,HSn.out,rfl⟩
      ·have hi1 : ((i : Int) < L.length) = False:=by simp; omega
       have HLt : Hid (∀ x ∈ L,okBig x):=Lib.hid (by rw [List.take_of_length_le (by omega)] at h2; exact h2)
       clear hi h1 h2 HI
       by_cases g1 : 20 < l.length
       ·have g1' : (20 : Int) < l.length:=by omega
        clear g1
        go_wp2_with fail
        exact HPt.out _ F0.out.b
       have g1' : ((20 : Int) < l.length) = False:=by simp; omega
       by_cases g2 : 20 < its.length
       ·have g2' : (20 : Int) < its.length:=by omega
        clear g1 g2
        go_wp2_with fail
        exact HPt.out _ F0.out.b
       have g2' : ((20 : Int) < its.length) = False:=by simp; omega
       by_cases g3 : 100 < set.length
       ·have g3' : (100 : Int) < set.length:=by omega
        clear g1 g2 g3
        go_wp2_with fail
        exact HPt.out _ F0.out.b
       have g3' : ((100 : Int) < set.length) = False:=by simp; omega
       by_cases g4 : 20 < L.length
       ·have g4' : (20 : Int) < L.length:=by omega
        clear g1 g2 g3 g4
        go_wp2_with fail
        exact HPt.out _ F0.out.b
       have g4' : ((20 : Int) < L.length) = False:=by simp; omega
       go_wp2_with fail
       exact HPf.out _ F0.out.b (by omega) (by omega) (by omega) (by omega) HIt.out HLt.out
theorem reads_blk16 {w : World} {b e size n : Nat} {xs : Array Value} (h : Blk w b e xs) (hn : xs.size = n * size) : Reads w w.heap.size size (some ⟨b,0,none⟩) n xs.toList:=by
 refine ⟨by simpa using hn,fun _=>⟨_,rfl,h.lt,fun j u hu => ?_⟩⟩
 have hj : j < xs.size:=by have:=(List.getElem?_eq_some_iff.1 hu).1; simpa using this
 have:=h.cell j
 rw [show (⟨b,0,none⟩ : Addr).add j = ⟨b,j,none⟩ by unfold Addr.add; split <;> simp_all]
 rw [this]
 simpa using hu
set_option maxRecDepth 100000 in
set_option maxHeartbeats 2000000 in
theorem law16_works (w : World) (hT : Tbl w) :
  Calls Tryz.prog 15 #[] w fun e w'=>e = .returned (.bool true) ∧ Below w.heap.size w w':=by
 have HP : Hid (∀ w',Below w.heap.size w w' → (fun e w'=>e = Ending.returned (.bool true) ∧ Below w.heap.size w w') (Ending.returned (.bool true)) w'):=Lib.hid (fun W' a2=>⟨rfl,a2⟩)
 generalize (fun e w'=>e = Ending.returned (.bool true) ∧ Below w.heap.size w w') = P at HP ⊢
 have HTb:=Lib.hid hT
 obtain ⟨t,u,h1,h2,h3,h4,h5⟩:=Ex.works_plain
 have HGn : Hid (∀ (W : World) A B,Below w.heap.size w W → Reads W W.heap.size 3 A 1 [.string ⟨#[97]⟩,.int .i64 9,.int .i64 0] → Reads W W.heap.size 2 B 1 [.string ⟨#[118]⟩,.int .i64 1] → Calls Tryz.prog 44 #[.slice A 1 1,.slice B 1 1] W (TPutEnd W t 0)):=Lib.hid (fun W A B hW r1 r2=>by
  have:=exec_Genesis W Ex.wA (by decide) A 1 r1 Ex.wM (by decide) B 1 r2 (hT.next hW)
  rwa [h1] at this)
 have HD1 : Hid (∀ (W : World) v,Below w.heap.size w W → TrieP W t v → Calls Tryz.prog 17 #[v,.agg #[.int .i64 1,.string ⟨#[97]⟩,.int .i64 0,.string ⟨#[98]⟩,.int .i64 5,.string ⟨#[]⟩,.string ⟨#[]⟩,.slice none 0 0]] W (TPutEnd W u 0)):=Lib.hid (fun W v hW hk=>by
  have hc:=(Ex.genW_good Ex.wA Ex.wM).2
  rw [h1] at hc
  have:=exec_Do W t v hk (by simp only at hc; omega) (hT.next hW) 1 [97] 0 [98] 5 [] [] [] none 0 (by simp) (by simp) (by simp) (by simp) (by simp) Reads.none_
  rw [show (⟨1, [97],0, [98],5, [], [], []⟩ : Ex.Tx) = Ex.wX from rfl,h2] at this
  exact this)
 have HD2 : Hid (∀ (W : World) v,Below w.heap.size w W → TrieP W u v → Calls Tryz.prog 17 #[v,.agg #[.int .i64 1,.string ⟨#[97]⟩,.int .i64 0,.string ⟨#[98]⟩,.int .i64 5,.string ⟨#[]⟩,.string ⟨#[]⟩,.slice none 0 0]] W (TPutEnd W u 160)):=Lib.hid (fun W v hW hk=>by
  have hc:=(Ex.genW_good Ex.wA Ex.wM).2
  rw [h1] at hc
  have hg:=(Ex.genW_good Ex.wA Ex.wM).1
  rw [h1] at hg
  have hc2:=(Ex.doW_good hg Ex.wX).2
  rw [h2] at hc2
  have:=exec_Do W u v hk (by simp only at hc hc2; omega) (hT.next hW) 1 [97] 0 [98] 5 [] [] [] none 0 (by simp) (by simp) (by simp) (by simp) (by simp) Reads.none_
  rw [show (⟨1, [97],0, [98],5, [], [], []⟩ : Ex.Tx) = Ex.wX from rfl,h3] at this
  exact this)
 have HA : Hid (∀ (W : World) v,TrieP W u v → Calls Tryz.prog 20 #[v,.string ⟨#[97]⟩] W (AccEnd W (([97],4,1),0))):=Lib.hid (fun W v hk=>by
  have:=exec_Account W u v hk [97] (by simp)
  unfold accW at this
  rw [h4,if_pos (by decide +kernel)] at this
  exact this)
 have HB : Hid (∀ (W : World) v,TrieP W u v → Calls Tryz.prog 20 #[v,.string ⟨#[98]⟩] W (AccEnd W (([98],5,0),0))):=Lib.hid (fun W v hk=>by
  have:=exec_Account W u v hk [98] (by simp)
  unfold accW at this
  rw [h5,if_pos (by decide +kernel)] at this
  exact this)
 clear hT h1 h2 h3 h4 h5
 go_enter Tryz.func15,Tryz.ntmps15
 go_wp2_with fail
 have F0:=Live.ha (Live.ha (Lib.hid (Live.start w)) #[.string ⟨#[97]⟩,.int .i64 9,.int .i64 0] 56) #[.string ⟨#[118]⟩,.int .i64 1] 95
 rw [show (w.alloc (.cells #[.string ⟨#[97]⟩,.int .i64 9,.int .i64 0] 56)).heap.size = w.heap.size + 1 from by show (w.heap.push _).size = _; exact Array.size_push _] at F0
 generalize (w.alloc (.cells #[.string ⟨#[97]⟩,.int .i64 9,.int .i64 0] 56)).alloc (.cells #[.string ⟨#[118]⟩,.int .i64 1] 95) = W0 at F0 ⊢
 refine (HGn.out _ _ _ F0.out.b (reads_blk16 (F0.out.blk 1 rfl) (by simp)) (reads_blk16 (F0.out.blk 0 rfl) (by simp))).mono ?_
 rintro e w1 ⟨v1,rfl,hb,hk,_⟩
 have K1:=Lib.hid (hk (by first | exact trivial | rfl))
 have B1:=Lib.hid (F0.out.b.nxt hb)
 clear hb hk F0 HGn
 obtain ⟨_,p1,x1,rfl,_⟩:=id K1.out
 go_upto_region 5 with fail
 have F2 : Hid (Live w w1 []):=Lib.hid ⟨B1.out,by simp,List.Pairwise.nil⟩
 have B12 : Hid (Below w1.heap.size w1 (w1.alloc (.cells #[.int .i64 1,.string ⟨#[97]⟩,.int .i64 0,.string ⟨#[98]⟩,.int .i64 5,.string ⟨#[]⟩,.string ⟨#[]⟩,.slice none 0 0] 43))):=Lib.hid ((Below.refl _ w1).alloc (Nat.le_refl _) _)
 have F3:=Live.ha F2 #[.int .i64 1,.string ⟨#[97]⟩,.int .i64 0,.string ⟨#[98]⟩,.int .i64 5,.string ⟨#[]⟩,.string ⟨#[]⟩,.slice none 0 0] 43
 generalize w1.alloc (.cells #[.int .i64 1,.string ⟨#[97]⟩,.int .i64 0,.string ⟨#[98]⟩,.int .i64 5,.string ⟨#[]⟩,.string ⟨#[]⟩,.slice none 0 0] 43) = w2 at F3 B12 ⊢
 generalize w1.heap.size = xb at F3 ⊢
 have K2:=Lib.hid (K1.out.next B12.out)
 clear F2 B1 K1
 have k0_0 : w2.cell? ⟨xb,0,none⟩ = some (.int .i64 1):=F3.out.cell 0 0 rfl rfl; have k0_1 : w2.cell? ⟨xb,1,none⟩ = some (.string ⟨#[97]⟩):=F3.out.cell 0 1 rfl rfl; have k0_2 : w2.cell? ⟨xb,2,none⟩ = some (.int .i64 0):=F3.out.cell 0 2 rfl rfl; have k0_3 : w2.cell? ⟨xb,3,none⟩ = some (.string ⟨#[98]⟩):=F3.out.cell 0 3 rfl rfl; have k0_4 : w2.cell? ⟨xb,4,none⟩ = some (.int .i64 5):=F3.out.cell 0 4 rfl rfl; have k0_5 : w2.cell? ⟨xb,5,none⟩ = some (.string ⟨#[]⟩):=F3.out.cell 0 5 rfl rfl; have k0_6 : w2.cell? ⟨xb,6,none⟩ = some (.string ⟨#[]⟩):=F3.out.cell 0 6 rfl rfl; have k0_7 : w2.cell? ⟨xb,7,none⟩ = some (.slice none 0 0):=F3.out.cell 0 7 rfl rfl
 go_wp2_with fail
 refine (HD1.out _ _ F3.out.b K2.out).mono ?_
 rintro e w3 ⟨v3,rfl,hb,hk,_⟩
 have F4:=Live.hb F3 hb
 have K3:=Lib.hid (hk (by first | exact trivial | rfl))
 clear hb hk F3 K2 k0_0 k0_1 k0_2 k0_3 k0_4 k0_5 k0_6 k0_7 HD1
 obtain ⟨_,p3,x3,rfl,_⟩:=id K3.out
 have k0_0 : w3.cell? ⟨xb,0,none⟩ = some (.int .i64 1):=F4.out.cell 0 0 rfl rfl; have k0_1 : w3.cell? ⟨xb,1,none⟩ = some (.string ⟨#[97]⟩):=F4.out.cell 0 1 rfl rfl; have k0_2 : w3.cell? ⟨xb,2,none⟩ = some (.int .i64 0):=F4.out.cell 0 2 rfl rfl; have k0_3 : w3.cell? ⟨xb,3,none⟩ = some (.string ⟨#[98]⟩):=F4.out.cell 0 3 rfl rfl; have k0_4 : w3.cell? ⟨xb,4,none⟩ = some (.int .i64 5):=F4.out.cell 0 4 rfl rfl; have k0_5 : w3.cell? ⟨xb,5,none⟩ = some (.string ⟨#[]⟩):=F4.out.cell 0 5 rfl rfl; have k0_6 : w3.cell? ⟨xb,6,none⟩ = some (.string ⟨#[]⟩):=F4.out.cell 0 6 rfl rfl; have k0_7 : w3.cell? ⟨xb,7,none⟩ = some (.slice none 0 0):=F4.out.cell 0 7 rfl rfl
 go_wp2_with fail
 refine (HD2.out _ _ F4.out.b K3.out).mono ?_
 rintro e w4 ⟨v4,rfl,hb,_,hn⟩
 obtain rfl:=hn (by decide)
 have F5:=Live.hb F4 hb
 have K4:=Lib.hid (K3.out.next hb)
 clear hb hn F4 K3 k0_0 k0_1 k0_2 k0_3 k0_4 k0_5 k0_6 k0_7 HD2
 go_wp2_with fail
 refine (HA.out _ _ K4.out).mono ?_
 rintro e w5 ⟨rfl,hb⟩
 have F6:=Live.hb F5 hb
 have K5:=Lib.hid (K4.out.next hb)
 clear hb F5 K4
 go_upto_region 10 with fail
 have F7:=Live.ha F6 #[.string ⟨#[97]⟩,.int .i64 4,.int .i64 1] 56
 have K6:=Lib.hid (K5.out.next ((Below.refl _ w5).alloc (Nat.le_refl _) (.cells #[.string ⟨#[97]⟩,.int .i64 4,.int .i64 1] 56)))
 generalize w5.alloc (.cells #[.string ⟨#[97]⟩,.int .i64 4,.int .i64 1] 56) = w6 at F7 K6 ⊢
 generalize w5.heap.size = ab at F7 ⊢
 clear F6 K5
 go_wp2_with fail
 refine (HB.out _ _ K6.out).mono ?_
 rintro e w7 ⟨rfl,hb⟩
 have F8:=Live.hb F7 hb
 clear hb F7 K6
 go_upto_region 11 with fail
 have F9:=Live.ha F8 #[.string ⟨#[98]⟩,.int .i64 5,.int .i64 0] 56
 generalize w7.alloc (.cells #[.string ⟨#[98]⟩,.int .i64 5,.int .i64 0] 56) = w8 at F9 ⊢
 generalize w7.heap.size = bb at F9 ⊢
 clear F8
 have k0_0 : w8.cell? ⟨bb,0,none⟩ = some (.string ⟨#[98]⟩):=F9.out.cell 0 0 rfl rfl; have k0_1 : w8.cell? ⟨bb,1,none⟩ = some (.int .i64 5):=F9.out.cell 0 1 rfl rfl; have k0_2 : w8.cell? ⟨bb,2,none⟩ = some (.int .i64 0):=F9.out.cell 0 2 rfl rfl
 have k1_0 : w8.cell? ⟨ab,0,none⟩ = some (.string ⟨#[97]⟩):=F9.out.cell 1 0 rfl rfl; have k1_1 : w8.cell? ⟨ab,1,none⟩ = some (.int .i64 4):=F9.out.cell 1 1 rfl rfl; have k1_2 : w8.cell? ⟨ab,2,none⟩ = some (.int .i64 1):=F9.out.cell 1 2 rfl rfl
 go_wp2_with fail
 exact HP.out _ F9.out.b
end Go.Proofs.YtomnlhbioijfhaaGreatDoor
