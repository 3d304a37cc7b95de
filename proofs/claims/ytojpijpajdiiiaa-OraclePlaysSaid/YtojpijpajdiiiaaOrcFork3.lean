/- Layer 6's laws: OracleFork, walked. No conditions. -/
import Derived.Test.YtojpijpajdiiiaaOrcFork2
import Derived.Test.YtojpijpajdiiiaaOrcOnly
namespace Go.Proofs.Ytojpijpajdiiiaa
set_option linter.unusedVariables false
open Go.RowKit Go.Instr
attribute [local go_sem] ba_get ByteArray.mk_append_mk add_zero_addr

theorem kn_pre {l : List Sg} (h : Kn l) : ∀ (i : Nat) (hi : i < l.length), atRow (l[i].1, l[i].2.1) (l.take i) = none := by
  intro i hi
  cases hn : atRow (l[i].1, l[i].2.1) (l.take i) with
  | none => rfl
  | some n =>
    obtain ⟨x, hx, hk⟩ := atRow_lt hn
    have hni : n < (l.take i).length := (List.getElem?_eq_some_iff.1 hx).1
    rw [List.length_take] at hni
    have hx2 : l[n]'(by omega) = x := by
      rw [List.getElem?_take_of_lt (show n < i by omega)] at hx
      exact (List.getElem?_eq_some_iff.1 hx).2
    have hp := List.pairwise_iff_getElem.1 h n i (by simp; omega) (by simpa using hi) (by omega)
    simp only [List.getElem_map] at hp
    have hq : ky (l[n]'(by omega)) = ky l[i] := by
      simp only [hx2]
      exact hk
    exact absurd hq hp
/-- what stands in the table that is signed later, and was signed before in neither, is in the fork too -/
theorem fork_plain (l : List Sg) (hl : l.length ≤ 40) (a b : Stp) :
    ((atRow (a.who, a.mark) (sign l b.who b.mark b.h).1).isSome = true → (atRow (a.who, a.mark) (sign l a.who a.mark a.h).1).isSome = true) := by
  have h1 := (sign_step l (show l.length < 1024 by omega) b (a.who, a.mark) []).1
  have h2 := (sign_step l (show l.length < 1024 by omega) a (a.who, a.mark) []).1
  rw [atRow_isSome, atRow_isSome, h1, h2]
  intro h
  simp only [Bool.or_eq_true, Bool.and_eq_true, beq_iff_eq] at h ⊢
  rcases h with h | ⟨⟨h1, h2⟩, h3⟩
  · exact .inl h
  · rw [h2, h3] at h1
    exact .inr (by simpa using h1)

theorem boxes {w wk : World} {a b : Stp} (hb : Below (w.heap.size + 2) ((w.alloc (.cells (stepv a).toArray 27)).alloc (.cells (stepv b).toArray 27)) wk) :
    (wk.cell? ⟨w.heap.size, 0, none⟩ = some (.string ⟨a.who.toArray⟩) ∧ wk.cell? ⟨w.heap.size, 1, none⟩ = some (.string ⟨a.mark.toArray⟩) ∧ wk.cell? ⟨w.heap.size, 2, none⟩ = some (.bool a.h)) ∧
    (wk.cell? ⟨w.heap.size + 1, 0, none⟩ = some (.string ⟨b.who.toArray⟩) ∧ wk.cell? ⟨w.heap.size + 1, 1, none⟩ = some (.string ⟨b.mark.toArray⟩) ∧ wk.cell? ⟨w.heap.size + 1, 2, none⟩ = some (.bool b.h)) := by
  have h1 : Blk ((w.alloc (.cells (stepv a).toArray 27)).alloc (.cells (stepv b).toArray 27)) w.heap.size 27 (stepv a).toArray := (Blk.new w _ _).alloc _
  have h2 : Blk ((w.alloc (.cells (stepv a).toArray 27)).alloc (.cells (stepv b).toArray 27)) (w.heap.size + 1) 27 (stepv b).toArray := by
    have := Blk.new (w.alloc (.cells (stepv a).toArray 27)) 27 (stepv b).toArray
    rw [World.size_alloc] at this
    exact this
  have k1 := h1.below hb (by omega)
  have k2 := h2.below hb (by omega)
  exact ⟨⟨k1.cell 0, k1.cell 1, k1.cell 2⟩, k2.cell 0, k2.cell 1, k2.cell 2⟩

set_option maxRecDepth 100000 in
set_option maxHeartbeats 2000000 in
theorem law_OracleFork (w : World) (A : Option Addr) (c : Nat) (L : List Stp) (a b : Stp) (HR : Reads w w.heap.size 4 A L.length (steps L)) (hL : L.length ≤ maxLen) :
    Calls Try.prog 6 #[.slice A L.length c, .agg #[.string ⟨a.who.toArray⟩, .string ⟨a.mark.toArray⟩, .bool a.h, .bool a.fork], .agg #[.string ⟨b.who.toArray⟩, .string ⟨b.mark.toArray⟩, .bool b.h, .bool b.fork]] w fun e w' => e = .returned (.bool true) ∧ Below w.heap.size w w' := by
  go_enter Try.func6, Try.ntmps6
  go_wp2_with fail
  have HB0 : Below w.heap.size w ((w.alloc (.cells (stepv a).toArray 27)).alloc (.cells (stepv b).toArray 27)) := by go_grown
  have HBX := Lib.hid (fun wk => boxes (w := w) (wk := wk) (a := a) (b := b))
  have hsz : ((w.alloc (.cells (stepv a).toArray 27)).alloc (.cells (stepv b).toArray 27)).heap.size = w.heap.size + 2 := by simp
  change Calls _ _ _ ((w.alloc (.cells (stepv a).toArray 27)).alloc (.cells (stepv b).toArray 27)) _
  generalize (w.alloc (.cells (stepv a).toArray 27)).alloc (.cells (stepv b).toArray 27) = W at *
  refine (orc_works _).mono ?_
  rintro e w1 ⟨rfl, hb1⟩
  go_wp2_with fail
  have HR1 : Reads w1 w1.heap.size 4 A L.length (steps L) := ((HR.below (HB0.trans (hb1.mono (by omega)))).more (by have := HB0.size; have := hb1.size; omega))
  refine (orc_fill _ A c L HR1 hL).mono ?_
  rintro e w2 ⟨rfl, ⟨vt, hTt⟩, hb2⟩
  have hl40 : (signs [] (L.take 40)).length ≤ 40 := by
    have := signs_length [] (L.take 40)
    simp only [List.length_nil, List.length_take] at this
    omega
  have hkn := kn_signs (L.take 40) [] (by simp [Kn])
  generalize signs [] (L.take 40) = l at *
  generalize hmt : w1.heap.size = mt at *
  have B2 : Below W.heap.size W w2 := hb1.trans (hb2.mono (by rw [← hmt]; exact hb1.size))
  have hlt := TabX.lt hTt
  have hge := TabX.ge hTt
  have K0 := Lib.hid (And.intro hTt (And.intro hl40 (And.intro hkn (And.intro hlt (And.intro B2 (And.intro HB0 hsz))))))
  have hmW : W.heap.size ≤ mt := by rw [← hmt]; exact hb1.size
  clear hTt hl40 hkn hlt hge hb1 hb2 B2 HB0 hsz HR HR1 hmt
  go_wp2_with fail
  refine (orc_Fork w2 mt vt l K0.out.1 (by have := K0.out.2.1; omega) (kn_pre K0.out.2.2.1)).mono ?_
  rintro e w3 ⟨rfl, ⟨vf, hTf⟩, hb3⟩
  have hTt3 := K0.out.1.below hb3
  have B3 := K0.out.2.2.2.2.1.nxt hb3
  have hX3 := K0.out.2.2.2.1
  generalize hmf : w2.heap.size = mf at *
  have hmm : mt + 1 < mf := hX3 (mt + 1) (.inr (.inl rfl))
  have K1 := Lib.hid (And.intro hTt3 (And.intro hTf (And.intro hX3 B3)))
  clear hTt3 hTf hX3 B3 hb3 hmf
  go_wp2_with fail
  refine (orc_All w3 mt vt l K1.out.1 (by have := K0.out.2.1; omega)).mono ?_
  rintro e w4 ⟨A1, c1, l1, rfl, _, _, _, hb4⟩
  have hTt4 := K1.out.1.below hb4
  have hTf4 := K1.out.2.1.below hb4
  have B4 := K1.out.2.2.2.nxt hb4
  have K2 := Lib.hid (And.intro hTt4 (And.intro hTf4 B4))
  obtain ⟨⟨q0, q1, q2⟩, _⟩ := HBX.out w4 (by rw [← K0.out.2.2.2.2.2.2]; exact B4)
  clear hTt4 hTf4 B4 hb4
  go_wp2_with fail
  refine (orc_Sign w4 mf vf l K2.out.2.1 (by have := K0.out.2.1; omega) a.who a.mark a.h).mono ?_
  rintro e w5 ⟨rfl, vf', hTf5, hk5, hof⟩
  have hknf := kn_sign l K0.out.2.2.1 a.who a.mark a.h
  have hlf := sign_length l a.who a.mark a.h
  have HLF : Hid ((sign l a.who a.mark a.h).1 = (sign l a.who a.mark a.h).1) := Lib.hid rfl
  have hTt5 : Tab w5 mt vt l := K2.out.1.kept hk5 (fun k hx hy => by have := K1.out.2.2.1 k hx; have := TabX.ge K2.out.2.1 k hy; omega)
  have B5 : Below W.heap.size W w5 := K2.out.2.2.trans (hk5.below K2.out.2.2.size (fun k hx => by have := TabX.ge K2.out.2.1 k hx; omega))
  have PLAIN := Lib.hid (fork_plain l K0.out.2.1 a b)
  generalize (sign l a.who a.mark a.h).1 = lf at *
  generalize (sign l a.who a.mark a.h).2 = cf at *
  have K3 := Lib.hid (And.intro hTt5 (And.intro hTf5 (And.intro B5 (And.intro hknf hlf))))
  clear hTt5 hTf5 B5 hknf hlf hk5 hof q0 q1 q2 K2 HLF
  go_wp2_with fail
  refine (orc_All w5 mt vt l K3.out.1 (by have := K0.out.2.1; omega)).mono ?_
  rintro e w6 ⟨A2, c2, l2, rfl, _, _, _, hb6⟩
  have hTt6 := K3.out.1.below hb6
  have hTf6 := K3.out.2.1.below hb6
  have B6 := K3.out.2.2.1.nxt hb6
  have K4 := Lib.hid (And.intro hTt6 (And.intro hTf6 B6))
  clear hTt6 hTf6 B6 hb6
  go_wp2_with fail
  refine (orc_All w6 mf vf' lf K4.out.2.1 (by have := K3.out.2.2.2.2; have := K0.out.2.1; omega)).mono ?_
  rintro e w7 ⟨Ax, cx, lx, rfl, ownx, px, sx, hb7⟩
  have hTt7 := K4.out.1.below hb7
  have hTf7 := K4.out.2.1.below hb7
  have B7 := K4.out.2.2.nxt hb7
  obtain ⟨_, ⟨q0, q1, q2⟩⟩ := HBX.out w7 (by rw [← K0.out.2.2.2.2.2.2]; exact B7)
  have hm6 : mf + 1 < w6.heap.size := K4.out.2.1.blk.lt
  have K5 := Lib.hid (And.intro hTt7 (And.intro hTf7 (And.intro B7 (And.intro ownx (And.intro px (And.intro sx hm6))))))
  clear hTt7 hTf7 B7 hb7 ownx px sx hm6 K4
  go_wp2_with fail
  refine (orc_Sign w7 mt vt l K5.out.1 (by have := K0.out.2.1; omega) b.who b.mark b.h).mono ?_
  rintro e w8 ⟨rfl, vt', hTt8, hk8, hot⟩
  have hTf8 : Tab w8 mf vf' lf := K5.out.2.1.kept hk8 (fun k hx hy => by have := K1.out.2.2.1 k hy; have := TabX.ge K5.out.2.1 k hx; omega)
  have ownx8 := own_keep K5.out.2.2.2.1 (fun k e => hk8.block k (K5.out.2.2.2.1.lt k e).2 (fun hy => by have := K1.out.2.2.1 k hy; have := (K5.out.2.2.2.1.lt k e).1; have := K5.out.2.2.2.2.2.2; omega))
  have B8 : Below W.heap.size W w8 := K5.out.2.2.1.trans (hk8.below K5.out.2.2.1.size (fun k hx => by have := TabX.ge K5.out.1 k hx; omega))
  generalize (sign l b.who b.mark b.h).1 = lt at *
  generalize (sign l b.who b.mark b.h).2 = ct at *
  have K6 := Lib.hid (And.intro hTt8 (And.intro hTf8 (And.intro B8 (And.intro ownx8 (And.intro K5.out.2.2.2.2.1 K5.out.2.2.2.2.2.1)))))
  clear hTt8 hTf8 B8 ownx8 hk8 hot q0 q1 q2 K5
  go_wp2_with fail
  refine (orc_All w8 mf vf' lf K6.out.2.1 (by have := K3.out.2.2.2.2; have := K0.out.2.1; omega)).mono ?_
  rintro e w9 ⟨Ay, cy, ly, rfl, owny, py, sy, hb9⟩
  have hxy : lx = ly := srt_unique K3.out.2.2.2.1 K3.out.2.2.2.1 (fun _ => rfl) K6.out.2.2.2.2.1 py K6.out.2.2.2.2.2 sy
  have hTt9 := K6.out.1.below hb9
  have hTf9 := K6.out.2.1.below hb9
  have B9 := K6.out.2.2.1.nxt hb9
  have ox9 := own_below K6.out.2.2.2.1 hb9
  rw [← hxy] at owny
  have hlf2 : lf.length ≤ 2000 := by have := K3.out.2.2.2.2; have := K0.out.2.1; omega
  have K7 := Lib.hid (And.intro hTt9 (And.intro hTf9 (And.intro B9 (And.intro ox9 (And.intro owny hlf2)))))
  clear hTt9 hTf9 B9 ox9 owny hb9 py sy hxy hlf2 K6 K1
  go_wp2
  refine fork_cmp w9 Ax Ay cx cy lf.length _ _ lx K7.out.2.2.2.2.2 K7.out.2.2.2.1 K7.out.2.2.2.2.1 _ _ _ _ ?_ _ _ _ _ _ _ _ _ _ _ _ _ _ _ _ _ _ _ _ _ _ _ _ _ _ _ _ _ _ _ _ _ _ _ _ _ _ _ _ _ _ _ _ _ _ _ _ _ _ _ _ _ _ _ _ _ _ _ _ _ _ _ _ _ _ _ _ _ _ _ _ _ _ _ _ _ _ _ _ _ _ _ _ _ _
  intro s0 s1 s2 s3 s5 s6 s9 s10 s13 s14 s15 s16 s17 s18 s19 s20 s21 s22 s23 s24 s25 s26 s27 s28 s29 s30 s31 s32 s33 s34 s35 s36 s37 s38 s39 s40 s41 s42 s43 s44 s45 s46 s47 s48 s49 s50 s51 s52 s53 s54 s55 s56 s58 s59 s60 s61 s62 s63 s64 s65 s66 s67 s68 s69 s70 s71 s72 s73 s74 s75 s76 s77 s78 s79 s80 s81 s82 s83 s84 s85 s86 s87 s88 s89 s90 s91 m
  go_wp2
  have B10 : Below W.heap.size W (w9.drewN m) := have h := K7.out.2.2.1; ⟨h.os, h.tape, h.output, h.size, h.block⟩
  have hTt10 : Tab (w9.drewN m) mt vt' lt := ⟨K7.out.1.blk, K7.out.1.map, K7.out.1.own⟩
  have hTf10 : Tab (w9.drewN m) mf vf' lf := ⟨K7.out.2.1.blk, K7.out.2.1.map, K7.out.2.1.own⟩
  generalize w9.drewN m = wz at *
  obtain ⟨⟨q0, q1, q2⟩, _⟩ := HBX.out wz (by rw [← K0.out.2.2.2.2.2.2]; exact B10)
  have GF : Hid (∀ w', Below wz.heap.size wz w' → Calls Try.prog 9 #[.pointer (some ⟨mf + 1, 0, none⟩), .string ⟨a.who.toArray⟩, .string ⟨a.mark.toArray⟩] w' fun e w'' => e = .returned (.bool (atRow (a.who, a.mark) lf).isSome) ∧ Hid (Below wz.heap.size wz w'') ∧ w''.cell? ⟨w.heap.size, 0, none⟩ = some (.string ⟨a.who.toArray⟩) ∧ w''.cell? ⟨w.heap.size, 1, none⟩ = some (.string ⟨a.mark.toArray⟩)) := Lib.hid (fun w' hb' => (orc_Signed w' mf vf' lf (hTf10.below hb') a.who a.mark).mono (by
    rintro e w'' ⟨rfl, hb''⟩
    have hb3 := hb'.nxt hb''
    obtain ⟨⟨r0, r1, r2⟩, _⟩ := HBX.out w'' (by rw [← K0.out.2.2.2.2.2.2]; exact B10.nxt hb3)
    exact ⟨rfl, Lib.hid hb3, r0, r1⟩))
  have GT : Hid (∀ w', Below wz.heap.size wz w' → Calls Try.prog 9 #[.pointer (some ⟨mt + 1, 0, none⟩), .string ⟨a.who.toArray⟩, .string ⟨a.mark.toArray⟩] w' fun e w'' => e = .returned (.bool (atRow (a.who, a.mark) lt).isSome) ∧ Hid (Below wz.heap.size wz w'') ∧ w''.cell? ⟨w.heap.size, 0, none⟩ = some (.string ⟨a.who.toArray⟩) ∧ w''.cell? ⟨w.heap.size, 1, none⟩ = some (.string ⟨a.mark.toArray⟩)) := Lib.hid (fun w' hb' => (orc_Signed w' mt vt' lt (hTt10.below hb') a.who a.mark).mono (by
    rintro e w'' ⟨rfl, hb''⟩
    have hb3 := hb'.nxt hb''
    obtain ⟨⟨r0, r1, r2⟩, _⟩ := HBX.out w'' (by rw [← K0.out.2.2.2.2.2.2]; exact B10.nxt hb3)
    exact ⟨rfl, Lib.hid hb3, r0, r1⟩))
  have FIN : Hid (∀ w', Below wz.heap.size wz w' → Below w.heap.size w w') := Lib.hid (fun w' h => (K0.out.2.2.2.2.2.1.trans ((B10.nxt h).mono K0.out.2.2.2.2.2.1.size)))
  have hne : mt + 1 ≠ mf + 1 := by omega
  clear K7 K3 K0 B10 hTt10 hTf10 HBX q2
  generalize (atRow (a.who, a.mark) lf).isSome = bf at *
  generalize (atRow (a.who, a.mark) lt).isSome = bt at *
  have PB := PLAIN.out
  clear PLAIN
  have tok1 : True := trivial
  have tok2 : True := trivial
  have tok3 : True := trivial
  cases bt <;> cases bf
  all_goals first | (exfalso; have h := PB rfl; cases h; done) | skip
  all_goals clear PB
  · go_region_held3 (fun w' => w'.cell? ⟨w.heap.size, 0, none⟩ = some (.string ⟨a.who.toArray⟩) ∧ w'.cell? ⟨w.heap.size, 1, none⟩ = some (.string ⟨a.mark.toArray⟩)) (first | go_keep | (constructor <;> assumption)) (first | (go_at_call 9; have _t := tok1; refine (GF.out _ ?_).mono ?_; (first | exact hB.out | exact (Below.refl _ _).drew); rintro e wy ⟨rfl, hB, z0, z1⟩; clear _t tok1) | (go_at_call 9; have _t := tok2; refine (GT.out _ ?_).mono ?_; (first | exact hB.out | exact (Below.refl _ _).drew); rintro e wy ⟨rfl, hB, z0, z1⟩; clear _t tok2) | (go_at_call 9; have _t := tok3; refine (GF.out _ ?_).mono ?_; (first | exact hB.out | exact (Below.refl _ _).drew); rintro e wy ⟨rfl, hB, z0, z1⟩; clear _t tok3))
    go_wp2
    go_ret
    exact ⟨rfl, FIN.out _ hB.out⟩
  · go_region_held3 (fun w' => w'.cell? ⟨w.heap.size, 0, none⟩ = some (.string ⟨a.who.toArray⟩) ∧ w'.cell? ⟨w.heap.size, 1, none⟩ = some (.string ⟨a.mark.toArray⟩)) (first | go_keep | (constructor <;> assumption)) (first | (go_at_call 9; have _t := tok1; refine (GF.out _ ?_).mono ?_; (first | exact hB.out | exact (Below.refl _ _).drew); rintro e wy ⟨rfl, hB, z0, z1⟩; clear _t tok1) | (go_at_call 9; have _t := tok2; refine (GT.out _ ?_).mono ?_; (first | exact hB.out | exact (Below.refl _ _).drew); rintro e wy ⟨rfl, hB, z0, z1⟩; clear _t tok2) | (go_at_call 9; have _t := tok3; refine (GF.out _ ?_).mono ?_; (first | exact hB.out | exact (Below.refl _ _).drew); rintro e wy ⟨rfl, hB, z0, z1⟩; clear _t tok3))
    go_wp2
    go_ret
    exact ⟨rfl, FIN.out _ hB.out⟩
  · refine wp_region_held_drew (S := fun w' => w'.cell? ⟨w.heap.size, 0, none⟩ = some (.string ⟨a.who.toArray⟩) ∧ w'.cell? ⟨w.heap.size, 1, none⟩ = some (.string ⟨a.mark.toArray⟩)) (by kernel_rfl) ⟨q0, q1⟩ (fun hHeld => ?_)
    refine wpAnyH_take (i := 0) (oi := ⟨some 71, _, _, _, _, _⟩) (v := ?_) rfl (by kernel_rfl) (by kernel_rfl) (by kernel_rfl) (fun _ _ _ h => h) (Or.inl ⟨by rfl, ?_⟩) (by assumption) ?_
    rotate_left
    · intro w hSw
      try dsimp only at hSw
      go_simp
      first | done | with_reducible rfl
    try simp only [Act.put, List.setIfInBounds_toArray, List.set_cons_zero, List.set_cons_succ]
    refine wpAnyH_take (i := 1) (oi := ⟨some 72, _, _, _, _, _⟩) (v := ?_) rfl (by kernel_rfl) (by kernel_rfl) (by kernel_rfl) (fun _ _ _ h => h) (Or.inl ⟨by rfl, ?_⟩) (by assumption) ?_
    rotate_left
    · intro w hSw
      try dsimp only at hSw
      go_simp
      first | done | with_reducible rfl
    try simp only [Act.put, List.setIfInBounds_toArray, List.set_cons_zero, List.set_cons_succ]
    refine wpAnyH_take (i := 2) (oi := ⟨some 73, _, _, _, _, _⟩) (v := ?_) rfl (by kernel_rfl) (by kernel_rfl) (by kernel_rfl) (fun _ _ _ h => h) (Or.inl ⟨by rfl, ?_⟩) (by assumption) ?_
    rotate_left
    · intro w hSw
      try dsimp only at hSw
      go_simp
      first | done | with_reducible rfl
    try simp only [Act.put, List.setIfInBounds_toArray, List.set_cons_zero, List.set_cons_succ]
    refine wpAnyH_take (i := 3) (oi := ⟨some 74, _, _, _, _, _⟩) (v := ?_) rfl (by kernel_rfl) (by kernel_rfl) (by kernel_rfl) (fun _ _ _ h => h) (Or.inl ⟨by rfl, ?_⟩) (by assumption) ?_
    rotate_left
    · intro w hSw
      try dsimp only at hSw
      go_simp
      first | done | with_reducible rfl
    try simp only [Act.put, List.setIfInBounds_toArray, List.set_cons_zero, List.set_cons_succ]
    refine wpAnyH_take (i := 4) (oi := ⟨some 75, _, _, _, _, _⟩) (v := ?_) rfl (by kernel_rfl) (by kernel_rfl) (by kernel_rfl) (fun _ _ _ h => h) (Or.inl ⟨by rfl, ?_⟩) (by assumption) ?_
    rotate_left
    · intro w hSw
      try dsimp only at hSw
      go_simp
      first | done | with_reducible rfl
    try simp only [Act.put, List.setIfInBounds_toArray, List.set_cons_zero, List.set_cons_succ]
    refine wpAnyH_take (i := 6) (oi := ⟨some 77, _, _, _, _, _⟩) (v := ?_) rfl (by kernel_rfl) (by kernel_rfl) (by kernel_rfl) (fun _ _ _ h => h) (Or.inl ⟨by rfl, ?_⟩) (by assumption) ?_
    rotate_left
    · intro w hSw
      try dsimp only at hSw
      go_simp
      first | done | with_reducible rfl
    try simp only [Act.put, List.setIfInBounds_toArray, List.set_cons_zero, List.set_cons_succ]
    refine wpAnyH_take (i := 7) (oi := ⟨some 78, _, _, _, _, _⟩) (v := ?_) rfl (by kernel_rfl) (by kernel_rfl) (by kernel_rfl) (fun _ _ _ h => h) (Or.inl ⟨by rfl, ?_⟩) (by assumption) ?_
    rotate_left
    · intro w hSw
      try dsimp only at hSw
      go_simp
      first | done | with_reducible rfl
    try simp only [Act.put, List.setIfInBounds_toArray, List.set_cons_zero, List.set_cons_succ]
    refine wpAnyH_take (i := 8) (oi := ⟨some 79, _, _, _, _, _⟩) (v := ?_) rfl (by kernel_rfl) (by kernel_rfl) (by kernel_rfl) (fun _ _ _ h => h) (Or.inl ⟨by rfl, ?_⟩) (by assumption) ?_
    rotate_left
    · intro w hSw
      try dsimp only at hSw
      go_simp
      first | done | with_reducible rfl
    try simp only [Act.put, List.setIfInBounds_toArray, List.set_cons_zero, List.set_cons_succ]
    refine wpAnyH_take (i := 9) (oi := ⟨some 80, _, _, _, _, _⟩) (v := ?_) rfl (by kernel_rfl) (by kernel_rfl) (by kernel_rfl) (fun _ _ _ h => h) (Or.inl ⟨by rfl, ?_⟩) (by assumption) ?_
    rotate_left
    · intro w hSw
      try dsimp only at hSw
      go_simp
      first | done | with_reducible rfl
    try simp only [Act.put, List.setIfInBounds_toArray, List.set_cons_zero, List.set_cons_succ]
    refine wpAnyH_take (i := 10) (oi := ⟨some 81, _, _, _, _, _⟩) (v := ?_) rfl (by kernel_rfl) (by kernel_rfl) (by kernel_rfl) (fun _ _ _ h => h) (Or.inl ⟨by rfl, ?_⟩) (by assumption) ?_
    rotate_left
    · intro w hSw
      try dsimp only at hSw
      go_simp
      first | done | with_reducible rfl
    try simp only [Act.put, List.setIfInBounds_toArray, List.set_cons_zero, List.set_cons_succ]
    refine wpAnyH_ready (rs := [5]) (by kernel_rfl) (by simp) ?_
    refine AllReadyH.cons rfl (fun K hK => ?_) AllReadyH.nil
    go_simp
    refine (GF.out _ ?_).mono ?_
    · first | exact hB.out | exact (Below.refl _ _).drew
    rintro e wy ⟨rfl, hB, z0, z1⟩
    go_simp
    refine hK.out _ _ ⟨z0, z1⟩ (fun hHeld => ?_)
    clear hK K
    refine wpAnyH_ready (rs := [11]) (by kernel_rfl) (by simp) ?_
    refine AllReadyH.cons rfl (fun K hK => ?_) AllReadyH.nil
    go_simp
    refine (GT.out _ ?_).mono ?_
    · first | exact hB.out | exact (Below.refl _ _).drew
    rintro e wy ⟨rfl, hB, z0, z1⟩
    go_simp
    refine hK.out _ _ ⟨z0, z1⟩ (fun hHeld => ?_)
    clear hK K
    refine wpAnyH_take (i := 12) (oi := ⟨some 83, _, _, _, _, _⟩) (v := ?_) rfl (by kernel_rfl) (by kernel_rfl) (by kernel_rfl) (fun _ _ _ h => h) (Or.inl ⟨by rfl, ?_⟩) (by assumption) ?_
    rotate_left
    · intro w hSw
      try dsimp only at hSw
      go_simp
      first | done | with_reducible rfl
    try simp only [Act.put, List.setIfInBounds_toArray, List.set_cons_zero, List.set_cons_succ]
    refine wpAnyH_take (i := 13) (oi := ⟨some 84, _, _, _, _, _⟩) (v := undef) rfl (by kernel_rfl) (by kernel_rfl) (by kernel_rfl) (fun _ _ _ h => h) (Or.inr ⟨by rfl, rfl⟩) (by assumption) ?_
    try simp only [Act.put, List.setIfInBounds_toArray, List.set_cons_zero, List.set_cons_succ]
    refine wpAnyH_take (i := 14) (oi := ⟨some 85, _, _, _, _, _⟩) (v := undef) rfl (by kernel_rfl) (by kernel_rfl) (by kernel_rfl) (fun _ _ _ h => h) (Or.inr ⟨by rfl, rfl⟩) (by assumption) ?_
    try simp only [Act.put, List.setIfInBounds_toArray, List.set_cons_zero, List.set_cons_succ]
    refine wpAnyH_take (i := 16) (oi := ⟨some 87, _, _, _, _, _⟩) (v := undef) rfl (by kernel_rfl) (by kernel_rfl) (by kernel_rfl) (fun _ _ _ h => h) (Or.inr ⟨by rfl, rfl⟩) (by assumption) ?_
    try simp only [Act.put, List.setIfInBounds_toArray, List.set_cons_zero, List.set_cons_succ]
    refine wpAnyH_take (i := 15) (oi := ⟨some 86, _, _, _, _, _⟩) (v := undef) rfl (by kernel_rfl) (by kernel_rfl) (by kernel_rfl) (fun _ _ _ h => h) (Or.inr ⟨by rfl, rfl⟩) (by assumption) ?_
    try simp only [Act.put, List.setIfInBounds_toArray, List.set_cons_zero, List.set_cons_succ]
    refine wpAnyH_take (i := 17) (oi := ⟨some 88, _, _, _, _, _⟩) (v := undef) rfl (by kernel_rfl) (by kernel_rfl) (by kernel_rfl) (fun _ _ _ h => h) (Or.inr ⟨by rfl, rfl⟩) (by assumption) ?_
    try simp only [Act.put, List.setIfInBounds_toArray, List.set_cons_zero, List.set_cons_succ]
    refine wpAnyH_take (i := 18) (oi := ⟨some 89, _, _, _, _, _⟩) (v := undef) rfl (by kernel_rfl) (by kernel_rfl) (by kernel_rfl) (fun _ _ _ h => h) (Or.inr ⟨by rfl, rfl⟩) (by assumption) ?_
    try simp only [Act.put, List.setIfInBounds_toArray, List.set_cons_zero, List.set_cons_succ]
    refine wpAnyH_take (i := 19) (oi := ⟨some 90, _, _, _, _, _⟩) (v := ?_) rfl (by kernel_rfl) (by kernel_rfl) (by kernel_rfl) (fun _ _ _ h => h) (Or.inl ⟨by rfl, ?_⟩) (by assumption) ?_
    rotate_left
    · intro w hSw
      try dsimp only at hSw
      go_simp
      first | done | with_reducible rfl
    try simp only [Act.put, List.setIfInBounds_toArray, List.set_cons_zero, List.set_cons_succ]
    refine wpAnyH_take (i := 20) (oi := ⟨some 91, _, _, _, _, _⟩) (v := ?_) rfl (by kernel_rfl) (by kernel_rfl) (by kernel_rfl) (fun _ _ _ h => h) (Or.inl ⟨by rfl, ?_⟩) (by assumption) ?_
    rotate_left
    · intro w hSw
      try dsimp only at hSw
      go_simp
      first | done | with_reducible rfl
    try simp only [Act.put, List.setIfInBounds_toArray, List.set_cons_zero, List.set_cons_succ]
    refine wpAnyH_take (i := 21) (oi := ⟨some 6, _, _, _, _, _⟩) (v := ?_) rfl (by kernel_rfl) (by kernel_rfl) (by kernel_rfl) (fun _ _ _ h => h) (Or.inl ⟨by rfl, ?_⟩) (by assumption) ?_
    rotate_left
    · intro w hSw
      try dsimp only at hSw
      go_simp
      first | done | with_reducible rfl
    try simp only [Act.put, List.setIfInBounds_toArray, List.set_cons_zero, List.set_cons_succ]
    refine wpAnyH_done (by kernel_rfl) ?_ _
    go_wp2
    go_ret
    exact ⟨rfl, FIN.out _ hB.out⟩
end Go.Proofs.Ytojpijpajdiiiaa
