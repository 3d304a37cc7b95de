/- Layer 6's laws: OraclePlays, its loop. No conditions. -/
import Derived.Test.YtojpijpajdiiiaaOrcPl7
import Derived.Test.YtojpijpajdiiiaaLoops
namespace Go.Proofs.Ytojpijpajdiiiaa
set_option linter.unusedVariables false
open Go.RowKit Go.Instr
attribute [local go_sem] ba_get ByteArray.mk_append_mk add_zero_addr

def mark1 : List UInt8 := [97, 110, 32, 111, 108, 100, 32, 116, 97, 98, 108, 101, 32, 116, 104, 97, 116, 32, 105, 115, 32, 115, 105, 103, 110, 101, 100, 32, 111, 110, 46, 46]
def mark2 : List UInt8 := [116, 104, 101, 32, 109, 97, 114, 107, 32, 111, 102, 32, 97, 32, 116, 97, 98, 108, 101, 32, 116, 104, 97, 116, 32, 105, 115, 32, 108, 101, 102, 116]
def cells4 (w : World) (ad : Addr) (i : Nat) (x : Stp) : Prop :=
  w.cell? (ad.add (i * 4)) = some (.string ⟨x.who.toArray⟩) ∧ w.cell? ⟨(ad.add (i * 4)).block, (ad.add (i * 4)).off + 1, none⟩ = some (.string ⟨x.mark.toArray⟩) ∧ w.cell? ⟨(ad.add (i * 4)).block, (ad.add (i * 4)).off + 2, none⟩ = some (.bool x.h) ∧ w.cell? ⟨(ad.add (i * 4)).block, (ad.add (i * 4)).off + 3, none⟩ = some (.bool x.fork)
theorem cells4_at {w : World} {ad : Addr} {n : Nat} {L : List Stp} (HR : Reads w w.heap.size 4 (some ad) n (steps L)) (i : Nat) (x : Stp) (hx : L[i]? = some x) (hn : i < n) : ∀ w', Below w.heap.size w w' → cells4 w' ad i x := by
  intro w' hb
  obtain ⟨ad', e, hbl, hcell⟩ := HR.2 (by omega)
  injection e with e
  subst e
  have cell : ∀ j u, (stepv x)[j]? = some u → j < 4 → w'.cell? (ad.add (i * 4 + j)) = some u := fun j u hu hj => by
    rw [hb.cell (by rw [block_of_add]; exact hbl)]
    exact hcell _ _ (by rw [steps_at L i j _ hx hj, hu])
  have q0 := cell 0 _ rfl (by omega)
  have q1 := cell 1 _ rfl (by omega)
  have q2 := cell 2 _ rfl (by omega)
  have q3 := cell 3 _ rfl (by omega)
  rw [Nat.add_zero] at q0
  rw [add_field _ _ _ (by omega)] at q1 q2 q3
  exact ⟨q0, q1, q2, q3⟩

set_option maxRecDepth 100000 in
set_option maxHeartbeats 2000000 in
theorem plays_loop (w w0 : World) (A : Option Addr) (c n : Nat) (L : List Stp) (hn : L.length = n) (hL : n ≤ maxLen) (HR : Reads w w.heap.size 4 A n (steps L)) (who mark : List UInt8)
    (mb0 : Nat) (v0 va0 : Value) (hP : Pl w w0 mb0 v0 va0 [] [])
    (Q : Exit → Act → World → Prop)
    (hQ : ∀ (s1 s2 s3 s4 s5 s6 s7 s8 s9 s10 s11 s12 s13 s14 s15 s16 s17 s18 s19 s20 s21 s22 s23 s24 s25 s26 s27 s28 s29 s30 s31 s32 s33 s34 s35 s36 s37 s38 s39 s40 s41 s42 s43 s44 s45 s46 s47 s48 s49 s50 s51 s52 s53 s54 s55 s56 s57 s58 s59 s60 s61 s62 s63 s64 s65 s66 s67 s68 s69 s70 s71 s72 s73 s74 s75 s76 s77 s78 s79 s80 s81 s82 s83 s84 s85 s86 s87 s88 s89 s90 s91 s92 s93 s94 s95 s96 s97 s98 s99 s100 s101 s102 s103 s104 s105 s106 : Value) (w2 : World), Below w.heap.size w w2 → Q (.exit 0) { tmps := #[.slice A n c, s1, s2, s3, s4, s5, s6, s7, s8, s9, s10, s11, s12, s13, s14, s15, s16, s17, s18, s19, s20, s21, s22, s23, s24, s25, s26, s27, s28, s29, s30, s31, s32, s33, s34, s35, s36, s37, s38, s39, s40, s41, s42, s43, s44, s45, s46, s47, s48, s49, s50, s51, s52, s53, s54, s55, s56, s57, s58, s59, s60, s61, s62, s63, s64, s65, s66, s67, s68, s69, s70, s71, s72, s73, s74, s75, s76, s77, s78, s79, s80, s81, s82, s83, s84, s85, s86, s87, s88, s89, s90, s91, s92, s93, s94, s95, s96, s97, s98, s99, s100, s101, s102, s103, s104, s105, s106], defers := [] } w2)
    (s3 s4 s5 s6 s10 s11 s12 s13 s14 s15 s16 s17 s18 s19 s20 s21 s22 s23 s24 s25 s26 s27 s28 s29 s30 s31 s32 s33 s34 s35 s36 s37 s38 s39 s40 s41 s42 s43 s44 s45 s46 s47 s48 s49 s50 s51 s52 s53 s54 s55 s56 s57 s58 s59 s60 s61 s62 s63 s64 s65 s66 s67 s68 s69 s70 s71 s72 s73 s74 s75 s76 s77 s78 s79 s80 s81 s82 s83 s84 s85 s86 s87 s88 s89 s90 s91 s92 s93 s94 s95 s96 s97 s98 s99 s100 s101 s102 s103 s104 s105 s106 : Value) :
    Code.wp Try.prog (.loop (loopAt Try.f5 0)) Q { tmps := #[.slice A n c, .string ⟨who.toArray⟩, .string ⟨mark.toArray⟩, s3, s4, s5, s6, .pointer (some ⟨mb0 + 1, 0, none⟩), va0, .int .i64 0, s10, s11, s12, s13, s14, s15, s16, s17, s18, s19, s20, s21, s22, s23, s24, s25, s26, s27, s28, s29, s30, s31, s32, s33, s34, s35, s36, s37, s38, s39, s40, s41, s42, s43, s44, s45, s46, s47, s48, s49, s50, s51, s52, s53, s54, s55, s56, s57, s58, s59, s60, s61, s62, s63, s64, s65, s66, s67, s68, s69, s70, s71, s72, s73, s74, s75, s76, s77, s78, s79, s80, s81, s82, s83, s84, s85, s86, s87, s88, s89, s90, s91, s92, s93, s94, s95, s96, s97, s98, s99, s100, s101, s102, s103, s104, s105, s106], defers := [] } w0 := by
  simp only [maxLen] at hL
  have HQ := Lib.hid hQ
  clear hQ
  refine wp_loop_ghost_k (fun k a wr => ∀ Φ : Act → Prop, (∀ (s3 s4 s5 s6 s10 s11 s12 s13 s14 s15 s16 s17 s18 s19 s20 s21 s22 s23 s24 s25 s26 s27 s28 s29 s30 s31 s32 s33 s34 s35 s36 s37 s38 s39 s40 s41 s42 s43 s44 s45 s46 s47 s48 s49 s50 s51 s52 s53 s54 s55 s56 s57 s58 s59 s60 s61 s62 s63 s64 s65 s66 s67 s68 s69 s70 s71 s72 s73 s74 s75 s76 s77 s78 s79 s80 s81 s82 s83 s84 s85 s86 s87 s88 s89 s90 s91 s92 s93 s94 s95 s96 s97 s98 s99 s100 s101 s102 s103 s104 s105 s106 : Value) (i mb : Nat) (v va : Value) (l M : List Sg), (i + k = 40 ∧ l.length ≤ i ∧ Sim l M ∧ Pl w wr mb v va l M) → Φ { tmps := #[.slice A n c, .string ⟨who.toArray⟩, .string ⟨mark.toArray⟩, s3, s4, s5, s6, .pointer (some ⟨mb + 1, 0, none⟩), va, .int .i64 i, s10, s11, s12, s13, s14, s15, s16, s17, s18, s19, s20, s21, s22, s23, s24, s25, s26, s27, s28, s29, s30, s31, s32, s33, s34, s35, s36, s37, s38, s39, s40, s41, s42, s43, s44, s45, s46, s47, s48, s49, s50, s51, s52, s53, s54, s55, s56, s57, s58, s59, s60, s61, s62, s63, s64, s65, s66, s67, s68, s69, s70, s71, s72, s73, s74, s75, s76, s77, s78, s79, s80, s81, s82, s83, s84, s85, s86, s87, s88, s89, s90, s91, s92, s93, s94, s95, s96, s97, s98, s99, s100, s101, s102, s103, s104, s105, s106], defers := [] }) → Φ a) (40) ?_ ?_
  · refine fun Φ hΦ => hΦ _ _ _ _ _ _ _ _ _ _ _ _ _ _ _ _ _ _ _ _ _ _ _ _ _ _ _ _ _ _ _ _ _ _ _ _ _ _ _ _ _ _ _ _ _ _ _ _ _ _ _ _ _ _ _ _ _ _ _ _ _ _ _ _ _ _ _ _ _ _ _ _ _ _ _ _ _ _ _ _ _ _ _ _ _ _ _ _ _ _ _ _ _ _ _ _ _ _ _ _ _ (0) (mb0) (v0) (va0) ([]) ([]) ?_
    exact ⟨by omega, by simp, Sim.nil, hP⟩
  · intro k1 a1 wr1 hI1 J1 K1 hJ1 hK1
    refine hI1 (fun a => Code.wp _ _ _ a _) ?_
    clear hI1 a1
    intro s0 s1 s2 s3 s4 s5 s6 s7 s8 s9 s10 s11 s12 s13 s14 s15 s16 s17 s18 s19 s20 s21 s22 s23 s24 s25 s26 s27 s28 s29 s30 s31 s32 s33 s34 s35 s36 s37 s38 s39 s40 s41 s42 s43 s44 s45 s46 s47 s48 s49 s50 s51 s52 s53 s54 s55 s56 s57 s58 s59 s60 s61 s62 s63 s64 s65 s66 s67 s68 s69 s70 s71 s72 s73 s74 s75 s76 s77 s78 s79 s80 s81 s82 s83 s84 s85 s86 s87 s88 s89 s90 s91 s92 s93 s94 s95 s96 s97 s98 s99 s100 i mb v va l M hrel
    show Code.wp _ _ _ _ _
    conv => arg 2; whnf
    obtain ⟨h1, h2, hS, hPl⟩ := hrel
    by_cases hi : i < n
    · by_cases h40 : i < 40
      · obtain ⟨ad, rfl, _, _⟩ := HR.2 (by omega)
        obtain ⟨x, hx⟩ : ∃ x, L[i]? = some x := ⟨_, List.getElem?_eq_getElem (show i < L.length by omega)⟩
        have HC := Lib.hid (cells4_at HR i x hx hi)
        have i1 : (i : Int) < n := by omega
        have i4 : (i : Int) < 40 := by omega
        have HI := Lib.hid (And.intro h1 (And.intro h2 hS))
        obtain ⟨c0, c1, c2, c3⟩ := HC.out wr1 hPl.below
        have HPl := Lib.hid hPl
        clear h1 h2 hS hPl hP HR hx
        cases hf : x.fork with
        | false =>
          rw [hf] at c3
          clear c0 c1 c2
          obtain ⟨mf, rfl⟩ : ∃ m, m = mb := ⟨mb, rfl⟩
          obtain ⟨vf, rfl⟩ : ∃ u, u = v := ⟨v, rfl⟩
          obtain ⟨wz, rfl⟩ : ∃ u, u = wr1 := ⟨wr1, rfl⟩
          have HPz := HPl
          go_wp2_with fail
          obtain ⟨c0, c1, c2, c3⟩ := HC.out wz HPz.out.below
          clear c3
          obtain ⟨l', M', cM, eL, eM, hS', hl'⟩ : ∃ l' M' cM, sign l x.who x.mark x.h = (l', cM) ∧ rsign M x.who x.mark x.h = (M', cM) ∧ Sim l' M' ∧ l'.length ≤ i + 1 := by
            have h := HI.out.2.2.sign (by have := HI.out.2.1; omega) x
            have h3 := sign_length l x.who x.mark x.h
            have h4 : (sign l x.who x.mark x.h).1.length ≤ i + 1 := Nat.le_trans h3 (Nat.succ_le_succ HI.out.2.1)
            exact ⟨(sign l x.who x.mark x.h).1, (rsign M x.who x.mark x.h).1, (sign l x.who x.mark x.h).2, rfl, Prod.ext rfl h.2.symm, h.1, h4⟩
          have hll : Hid (l.length ≤ 1000 ∧ M.length ≤ 1000) := Lib.hid (by
            have := HI.out.2.1
            have := HI.out.2.2.perm.length_eq
            omega)
          have HS2 := Lib.hid hS'
          have HL2 := Lib.hid (And.intro hl' h40)
          clear hS' hl'
          go_wp2
          go_region_held3 (fun w' => w'.cell? (ad.add (i * 4)) = some (.string ⟨x.who.toArray⟩) ∧ w'.cell? ⟨(ad.add (i * 4)).block, (ad.add (i * 4)).off + 1, none⟩ = some (.string ⟨x.mark.toArray⟩) ∧ w'.cell? ⟨(ad.add (i * 4)).block, (ad.add (i * 4)).off + 2, none⟩ = some (.bool x.h)) (first | go_keep | (refine ⟨?_, ?_, ?_⟩ <;> assumption)) (first | (go_at_call 12; have hW : Below wz.heap.size wz wz.drew := (Below.refl _ _).drew; refine (orc_Sign _ mf vf l (HPz.out.next hW).tab hll.out.1 x.who x.mark x.h).mono ?_; rintro e w5 hh; unfold SignEnd at hh; rw [eL] at hh; obtain ⟨rfl, v5, hT5, hk5, ho5⟩ := hh; have P5 := Lib.hid ((HPz.out.next hW).signed hk5 hT5 ho5); obtain ⟨d0, d1, d2, _⟩ := HC.out w5 P5.out.below; clear hT5 hk5 ho5 hW))
          go_wp2
          go_region_held3 (fun w' => w'.cell? (ad.add (i * 4)) = some (.string ⟨x.who.toArray⟩) ∧ w'.cell? ⟨(ad.add (i * 4)).block, (ad.add (i * 4)).off + 1, none⟩ = some (.string ⟨x.mark.toArray⟩) ∧ w'.cell? ⟨(ad.add (i * 4)).block, (ad.add (i * 4)).off + 2, none⟩ = some (.bool x.h)) (first | go_keep | (refine ⟨?_, ?_, ?_⟩ <;> assumption)) (first | (go_at_call 15; have hW : Below w5.heap.size w5 w5.drew := (Below.refl _ _).drew; refine (ref_Sign _ w.heap.size va M (P5.out.next hW).own (P5.out.next hW).below.size hll.out.2 x.who x.mark x.h).mono ?_; rintro e w6 hh; unfold RSignEnd at hh; rw [eM] at hh; obtain ⟨va6, rfl, own6, hb6, ho6⟩ := hh; have P6 := Lib.hid ((P5.out.next hW).listed hb6 own6 ho6); obtain ⟨g0, g1, g2, _⟩ := HC.out w6 P6.out.below; clear own6 hb6 ho6 hW))
          go_wp2
          have GT1 : Hid (∀ w', Below w6.heap.size w6 w' → Calls Try.prog 16 #[.pointer (some ⟨mf + 1, 0, none⟩), va6, .string ⟨x.who.toArray⟩, .string ⟨x.mark.toArray⟩] w' fun e w'' => e = .returned (.bool true) ∧ Hid (Below w6.heap.size w6 w'') ∧ w''.cell? (ad.add (i * 4)) = some (.string ⟨x.who.toArray⟩) ∧ w''.cell? ⟨(ad.add (i * 4)).block, (ad.add (i * 4)).off + 1, none⟩ = some (.string ⟨x.mark.toArray⟩)) := Lib.hid (fun w' hb' => (orc_tells w' mf v5 l' M' (P6.out.next hb').tab HS2.out (by have := HL2.out; omega) w.heap.size va6 (P6.out.next hb').own x.who x.mark).mono (by
              rintro e w'' ⟨rfl, hb''⟩
              have hb3 := hb'.nxt hb''
              obtain ⟨r0, r1, r2, _⟩ := HC.out w'' (P6.out.next hb3).below
              exact ⟨rfl, Lib.hid hb3, r0, r1⟩))
          have GT2 : Hid (∀ w', Below w6.heap.size w6 w' → Calls Try.prog 16 #[.pointer (some ⟨mf + 1, 0, none⟩), va6, .string ⟨who.toArray⟩, .string ⟨mark.toArray⟩] w' fun e w'' => e = .returned (.bool true) ∧ Hid (Below w6.heap.size w6 w'') ∧ w''.cell? (ad.add (i * 4)) = some (.string ⟨x.who.toArray⟩) ∧ w''.cell? ⟨(ad.add (i * 4)).block, (ad.add (i * 4)).off + 1, none⟩ = some (.string ⟨x.mark.toArray⟩)) := Lib.hid (fun w' hb' => (orc_tells w' mf v5 l' M' (P6.out.next hb').tab HS2.out (by have := HL2.out; omega) w.heap.size va6 (P6.out.next hb').own who mark).mono (by
              rintro e w'' ⟨rfl, hb''⟩
              have hb3 := hb'.nxt hb''
              obtain ⟨r0, r1, r2, _⟩ := HC.out w'' (P6.out.next hb3).below
              exact ⟨rfl, Lib.hid hb3, r0, r1⟩))
          have tok1 : True := trivial
          have tok2 : True := trivial
          go_region_held3 (fun w' => w'.cell? (ad.add (i * 4)) = some (.string ⟨x.who.toArray⟩) ∧ w'.cell? ⟨(ad.add (i * 4)).block, (ad.add (i * 4)).off + 1, none⟩ = some (.string ⟨x.mark.toArray⟩)) (first | go_keep | (constructor <;> assumption)) (first | (go_at_call 16; have _t := tok1; refine (GT1.out _ ?_).mono ?_; (first | exact hB.out | exact (Below.refl _ _).drew); rintro e wy ⟨rfl, hB, z0, z1⟩; clear _t tok1) | (go_at_call 16; have _t := tok2; refine (GT2.out _ ?_).mono ?_; (first | exact hB.out | exact (Below.refl _ _).drew); rintro e wy ⟨rfl, hB, z0, z1⟩; clear _t tok2))
          go_wp2
          refine Handed.intro (40 - (i + 1)) ?_ (hJ1 _ _ _ (fun Φ hΦ => hΦ _ _ _ _ _ _ _ _ _ _ _ _ _ _ _ _ _ _ _ _ _ _ _ _ _ _ _ _ _ _ _ _ _ _ _ _ _ _ _ _ _ _ _ _ _ _ _ _ _ _ _ _ _ _ _ _ _ _ _ _ _ _ _ _ _ _ _ _ _ _ _ _ _ _ _ _ _ _ _ _ _ _ _ _ _ _ _ _ _ _ _ _ _ _ _ _ _ _ _ _ _ (i + 1) (mf) (v5) (va6) (l') (M') ?_))
          · have := HI.out.1
            show 40 - (i + 1) < k1
            omega
          · exact ⟨by omega, HL2.out.1, HS2.out, P6.out.next hB.out⟩
        | true =>
          rw [hf] at c3
          go_wp2_with fail
          refine (orc_Fork wr1 mb v l HPl.out.tab (by have := HI.out.2.1; omega) (kn_pre HI.out.2.2.kn)).mono ?_
          rintro e w2 ⟨rfl, ⟨vf, hTf⟩, hb2⟩
          have P2 := Lib.hid (HPl.out.forked hb2 hTf)
          have T2 := Lib.hid (HPl.out.tab.below hb2)
          have N2 := Lib.hid (fun k (hk : TabX mb v k) => (show k < wr1.heap.size ∧ w.heap.size ≤ k ∧ va.ownBlock ≠ some k from ⟨TabX.lt HPl.out.tab k hk, Nat.le_trans HPl.out.ge (TabX.ge HPl.out.tab k hk), HPl.out.apart k hk⟩))
          clear hTf hb2
          generalize wr1.heap.size = mf at *
          have B2 := Lib.hid (And.intro (TabX.lt P2.out.tab) (fun k e => (P2.out.own.lt k e).2))
          go_wp2_with fail
          refine (orc_Sign w2 mb v l T2.out (by have := HI.out.2.1; omega) [111, 116, 104, 101, 114] mark1 true).mono ?_
          rintro e w3 ⟨rfl, v3, hT3, hk3, ho3⟩
          have P3 := Lib.hid (P2.out.other (B := w2.heap.size) hk3 B2.out.1 B2.out.2 P2.out.below.size (fun k hk => .inl (N2.out k hk)))
          have HX3 := Lib.hid (And.intro hT3 ho3)
          clear hT3 hk3 ho3
          go_wp2_with fail
          refine (orc_Sign w3 mb v3 _ HX3.out.1 (by have := HI.out.2.1; have := sign_length l [111, 116, 104, 101, 114] mark1 true; omega) [97] mark2 false).mono ?_
          rintro e w4 ⟨rfl, v4, hT4, hk4, ho4⟩
          have HPz : Hid (Pl w w4 mf vf va l M) := Lib.hid (P3.out.other (B := w2.heap.size) hk4 B2.out.1 B2.out.2 P2.out.below.size (by
            rintro k (rfl | rfl | hk)
            · exact .inl (N2.out _ (.inl rfl))
            · exact .inl (N2.out _ (.inr (.inl rfl)))
            · rcases HX3.out.2 with ho | ⟨g, ho, hg⟩
              · exact .inl (N2.out _ (.inr (.inr (by rw [← ho]; exact hk))))
              · rw [ho] at hk
                injection hk with hk
                subst hk
                exact .inr hg))
          obtain ⟨wz, rfl⟩ : ∃ u, u = w4 := ⟨w4, rfl⟩
          clear P2 T2 N2 B2 P3 HX3 hT4 hk4 ho4 c0 c1 c2 c3
          obtain ⟨c0, c1, c2, c3⟩ := HC.out wz HPz.out.below
          clear c3
          obtain ⟨l', M', cM, eL, eM, hS', hl'⟩ : ∃ l' M' cM, sign l x.who x.mark x.h = (l', cM) ∧ rsign M x.who x.mark x.h = (M', cM) ∧ Sim l' M' ∧ l'.length ≤ i + 1 := by
            have h := HI.out.2.2.sign (by have := HI.out.2.1; omega) x
            have h3 := sign_length l x.who x.mark x.h
            have h4 : (sign l x.who x.mark x.h).1.length ≤ i + 1 := Nat.le_trans h3 (Nat.succ_le_succ HI.out.2.1)
            exact ⟨(sign l x.who x.mark x.h).1, (rsign M x.who x.mark x.h).1, (sign l x.who x.mark x.h).2, rfl, Prod.ext rfl h.2.symm, h.1, h4⟩
          have hll : Hid (l.length ≤ 1000 ∧ M.length ≤ 1000) := Lib.hid (by
            have := HI.out.2.1
            have := HI.out.2.2.perm.length_eq
            omega)
          have HS2 := Lib.hid hS'
          have HL2 := Lib.hid (And.intro hl' h40)
          clear hS' hl'
          go_wp2
          go_region_held3 (fun w' => w'.cell? (ad.add (i * 4)) = some (.string ⟨x.who.toArray⟩) ∧ w'.cell? ⟨(ad.add (i * 4)).block, (ad.add (i * 4)).off + 1, none⟩ = some (.string ⟨x.mark.toArray⟩) ∧ w'.cell? ⟨(ad.add (i * 4)).block, (ad.add (i * 4)).off + 2, none⟩ = some (.bool x.h)) (first | go_keep | (refine ⟨?_, ?_, ?_⟩ <;> assumption)) (first | (go_at_call 12; have hW : Below wz.heap.size wz wz.drew := (Below.refl _ _).drew; refine (orc_Sign _ mf vf l (HPz.out.next hW).tab hll.out.1 x.who x.mark x.h).mono ?_; rintro e w5 hh; unfold SignEnd at hh; rw [eL] at hh; obtain ⟨rfl, v5, hT5, hk5, ho5⟩ := hh; have P5 := Lib.hid ((HPz.out.next hW).signed hk5 hT5 ho5); obtain ⟨d0, d1, d2, _⟩ := HC.out w5 P5.out.below; clear hT5 hk5 ho5 hW))
          go_wp2
          go_region_held3 (fun w' => w'.cell? (ad.add (i * 4)) = some (.string ⟨x.who.toArray⟩) ∧ w'.cell? ⟨(ad.add (i * 4)).block, (ad.add (i * 4)).off + 1, none⟩ = some (.string ⟨x.mark.toArray⟩) ∧ w'.cell? ⟨(ad.add (i * 4)).block, (ad.add (i * 4)).off + 2, none⟩ = some (.bool x.h)) (first | go_keep | (refine ⟨?_, ?_, ?_⟩ <;> assumption)) (first | (go_at_call 15; have hW : Below w5.heap.size w5 w5.drew := (Below.refl _ _).drew; refine (ref_Sign _ w.heap.size va M (P5.out.next hW).own (P5.out.next hW).below.size hll.out.2 x.who x.mark x.h).mono ?_; rintro e w6 hh; unfold RSignEnd at hh; rw [eM] at hh; obtain ⟨va6, rfl, own6, hb6, ho6⟩ := hh; have P6 := Lib.hid ((P5.out.next hW).listed hb6 own6 ho6); obtain ⟨g0, g1, g2, _⟩ := HC.out w6 P6.out.below; clear own6 hb6 ho6 hW))
          go_wp2
          have GT1 : Hid (∀ w', Below w6.heap.size w6 w' → Calls Try.prog 16 #[.pointer (some ⟨mf + 1, 0, none⟩), va6, .string ⟨x.who.toArray⟩, .string ⟨x.mark.toArray⟩] w' fun e w'' => e = .returned (.bool true) ∧ Hid (Below w6.heap.size w6 w'') ∧ w''.cell? (ad.add (i * 4)) = some (.string ⟨x.who.toArray⟩) ∧ w''.cell? ⟨(ad.add (i * 4)).block, (ad.add (i * 4)).off + 1, none⟩ = some (.string ⟨x.mark.toArray⟩)) := Lib.hid (fun w' hb' => (orc_tells w' mf v5 l' M' (P6.out.next hb').tab HS2.out (by have := HL2.out; omega) w.heap.size va6 (P6.out.next hb').own x.who x.mark).mono (by
              rintro e w'' ⟨rfl, hb''⟩
              have hb3 := hb'.nxt hb''
              obtain ⟨r0, r1, r2, _⟩ := HC.out w'' (P6.out.next hb3).below
              exact ⟨rfl, Lib.hid hb3, r0, r1⟩))
          have GT2 : Hid (∀ w', Below w6.heap.size w6 w' → Calls Try.prog 16 #[.pointer (some ⟨mf + 1, 0, none⟩), va6, .string ⟨who.toArray⟩, .string ⟨mark.toArray⟩] w' fun e w'' => e = .returned (.bool true) ∧ Hid (Below w6.heap.size w6 w'') ∧ w''.cell? (ad.add (i * 4)) = some (.string ⟨x.who.toArray⟩) ∧ w''.cell? ⟨(ad.add (i * 4)).block, (ad.add (i * 4)).off + 1, none⟩ = some (.string ⟨x.mark.toArray⟩)) := Lib.hid (fun w' hb' => (orc_tells w' mf v5 l' M' (P6.out.next hb').tab HS2.out (by have := HL2.out; omega) w.heap.size va6 (P6.out.next hb').own who mark).mono (by
              rintro e w'' ⟨rfl, hb''⟩
              have hb3 := hb'.nxt hb''
              obtain ⟨r0, r1, r2, _⟩ := HC.out w'' (P6.out.next hb3).below
              exact ⟨rfl, Lib.hid hb3, r0, r1⟩))
          have tok1 : True := trivial
          have tok2 : True := trivial
          go_region_held3 (fun w' => w'.cell? (ad.add (i * 4)) = some (.string ⟨x.who.toArray⟩) ∧ w'.cell? ⟨(ad.add (i * 4)).block, (ad.add (i * 4)).off + 1, none⟩ = some (.string ⟨x.mark.toArray⟩)) (first | go_keep | (constructor <;> assumption)) (first | (go_at_call 16; have _t := tok1; refine (GT1.out _ ?_).mono ?_; (first | exact hB.out | exact (Below.refl _ _).drew); rintro e wy ⟨rfl, hB, z0, z1⟩; clear _t tok1) | (go_at_call 16; have _t := tok2; refine (GT2.out _ ?_).mono ?_; (first | exact hB.out | exact (Below.refl _ _).drew); rintro e wy ⟨rfl, hB, z0, z1⟩; clear _t tok2))
          go_wp2
          refine Handed.intro (40 - (i + 1)) ?_ (hJ1 _ _ _ (fun Φ hΦ => hΦ _ _ _ _ _ _ _ _ _ _ _ _ _ _ _ _ _ _ _ _ _ _ _ _ _ _ _ _ _ _ _ _ _ _ _ _ _ _ _ _ _ _ _ _ _ _ _ _ _ _ _ _ _ _ _ _ _ _ _ _ _ _ _ _ _ _ _ _ _ _ _ _ _ _ _ _ _ _ _ _ _ _ _ _ _ _ _ _ _ _ _ _ _ _ _ _ _ _ _ _ _ (i + 1) (mf) (v5) (va6) (l') (M') ?_))
          · have := HI.out.1
            show 40 - (i + 1) < k1
            omega
          · exact ⟨by omega, HL2.out.1, HS2.out, P6.out.next hB.out⟩
      · have e40 : i = 40 := by omega
        have HB := Lib.hid hPl.below
        subst e40
        clear h1 h2 hS hPl hP HR
        go_wp2
        exact HQ.out _ _ _ _ _ _ _ _ _ _ _ _ _ _ _ _ _ _ _ _ _ _ _ _ _ _ _ _ _ _ _ _ _ _ _ _ _ _ _ _ _ _ _ _ _ _ _ _ _ _ _ _ _ _ _ _ _ _ _ _ _ _ _ _ _ _ _ _ _ _ _ _ _ _ _ _ _ _ _ _ _ _ _ _ _ _ _ _ _ _ _ _ _ _ _ _ _ _ _ _ _ _ _ _ _ _ _ HB.out
    · have hi2 : ((i : Int) < n) = False := by simp; omega
      have HB := Lib.hid hPl.below
      clear h1 h2 hS hPl hP HR
      go_wp2
      exact HQ.out _ _ _ _ _ _ _ _ _ _ _ _ _ _ _ _ _ _ _ _ _ _ _ _ _ _ _ _ _ _ _ _ _ _ _ _ _ _ _ _ _ _ _ _ _ _ _ _ _ _ _ _ _ _ _ _ _ _ _ _ _ _ _ _ _ _ _ _ _ _ _ _ _ _ _ _ _ _ _ _ _ _ _ _ _ _ _ _ _ _ _ _ _ _ _ _ _ _ _ _ _ _ _ _ _ _ _ HB.out
end Go.Proofs.Ytojpijpajdiiiaa
