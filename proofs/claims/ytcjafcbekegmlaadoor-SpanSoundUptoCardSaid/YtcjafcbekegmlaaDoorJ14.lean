import Derived.Test.YtcjafcbekegmlaaDoorJ13
import Derived.Test.YtcjafcbekegmlaaDoorJ02
import Derived.Test.YtcjafcbekegmlaaDoorJ09
import Derived.Deep.DeepCutAuto
set_option linter.unusedSimpArgs false
set_option linter.unusedVariables false
namespace Go.Proofs.YtcjafcbekegmlaaDoor
set_option linter.unusedVariables false
open Go.RowKit Go.Instr
attribute [local go_sem] ba_get ByteArray.mk_append_mk
theorem i64_and_one (a : Nat) (ha : a < 9223372036854775808) : bits .and .i64 (a : Int) 1 = ((a % 2 : Nat) : Int) := by
  show IntKind.i64.wrap ((BitVec.ofInt 64 (a : Int) &&& BitVec.ofInt 64 ((1 : Nat) : Int)).toNat : Int) = _
  rw [BitVec.toNat_and, ofInt_i64 a ha, ofInt_i64 1 (by omega), Nat.and_one_is_mod, IntKind.wrap_i64]
  omega
theorem kidsR_step (set : Nat) (sq s : List UInt8 × Nat) (D : List (List UInt8)) (i : Nat) (hi : i < 16) (h : kidsR set 16 sq = (D ++ (kidsR set (16 - i) s).1, (kidsR set (16 - i) s).2)) :
    kidsR set 16 sq = (D ++ [(kidR set (15 - i) s).1] ++ (kidsR set (16 - (i + 1)) (kidR set (15 - i) s).2).1, (kidsR set (16 - (i + 1)) (kidR set (15 - i) s).2).2) := by
  rw [h, show 16 - i = (15 - i) + 1 by omega, show 16 - (i + 1) = 15 - i by omega]
  simp only [kidsR, List.append_assoc, List.singleton_append]
set_option maxRecDepth 100000 in
set_option maxHeartbeats 2000000 in
theorem branch_loop (w0 w : World) (g nb set : Nat) (hset : set < 65536) (sq : List UInt8 × Nat) (b0 : ByteArray) (H0 : Hid (RdNd w0 w g nb sq (3, [], [], zeroK)))
    (Q : Exit → Act → World → Prop)
    (hQ : ∀ (s2 s3 s4 s5 s6 s7 s8 s9 s10 s11 s12 s13 s14 s15 s16 s17 s18 s19 s20 s21 s22 s23 s24 s25 s26 s27 s28 s29 s30 s31 s32 s33 s34 s35 s36 s37 s38 s39 s40 : Value) (w2 : World), RdNd w0 w2 g nb (kidsR set 16 sq).2 (3, [], [], (kidsR set 16 sq).1) → Q (.exit 0) { tmps := #[.pointer (some ⟨g, 0, none⟩), .pointer (some ⟨nb, 0, none⟩), s2, s3, s4, s5, s6, s7, s8, s9, s10, s11, s12, s13, s14, s15, s16, s17, s18, s19, s20, s21, s22, s23, s24, s25, s26, s27, s28, s29, s30, s31, s32, s33, s34, s35, s36, s37, s38, s39, s40], defers := [] } w2)
    (s2 s3 s4 s6 s7 s8 s9 s10 s11 s12 s13 s14 s15 s16 s17 s18 s20 s21 s22 s23 s24 s25 s26 s27 s28 s29 s30 s31 s32 s33 s34 s35 s36 s37 s38 s39 s40 : Value) :
    Code.wp Tryd.prog (.loop (loopAt Tryd.f63 0)) Q { tmps := #[.pointer (some ⟨g, 0, none⟩), .pointer (some ⟨nb, 0, none⟩), s2, s3, s4, .int .i64 (set : Int), s6, s7, s8, s9, s10, s11, s12, s13, s14, s15, s16, s17, s18, .int .i64 0, s20, s21, s22, s23, s24, s25, s26, s27, s28, s29, s30, s31, s32, s33, s34, s35, s36, s37, s38, s39, s40], defers := [] } w := by
  have HQ := Lib.hid hQ
  clear hQ
  refine wp_loop_ghost_k (fun k a wr => ∀ Φ : Act → Prop, (∀ (s2 s3 s4 s6 s7 s8 s9 s10 s11 s12 s13 s14 s15 s16 s17 s18 s20 s21 s22 s23 s24 s25 s26 s27 s28 s29 s30 s31 s32 s33 s34 s35 s36 s37 s38 s39 s40 : Value) (i : Nat) (s : List UInt8 × Nat) (D : List (List UInt8)), (i + k = 16 ∧ D.length = i ∧ RdNd w0 wr g nb s (3, [], [], pad D) ∧ kidsR set 16 sq = (D ++ (kidsR set (16 - i) s).1, (kidsR set (16 - i) s).2)) → Φ { tmps := #[.pointer (some ⟨g, 0, none⟩), .pointer (some ⟨nb, 0, none⟩), s2, s3, s4, .int .i64 (set : Int), s6, s7, s8, s9, s10, s11, s12, s13, s14, s15, s16, s17, s18, .int .i64 (i : Int), s20, s21, s22, s23, s24, s25, s26, s27, s28, s29, s30, s31, s32, s33, s34, s35, s36, s37, s38, s39, s40], defers := [] }) → Φ a) (16) ?_ ?_
  · refine fun Φ hΦ => hΦ _ _ _ _ _ _ _ _ _ _ _ _ _ _ _ _ _ _ _ _ _ _ _ _ _ _ _ _ _ _ _ _ _ _ _ _ _ (0) (sq) ([]) ?_
    exact ⟨rfl, rfl, H0.out, by simp⟩
  · intro k1 a1 wr1 hI1 J1 K1 hJ1 hK1
    refine hI1 (fun a => Code.wp _ _ _ a _) ?_
    clear hI1 a1
    intro s0 s1 s2 s3 s4 s5 s6 s7 s8 s9 s10 s11 s12 s13 s14 s15 s16 s17 s18 s19 s20 s21 s22 s23 s24 s25 s26 s27 s28 s29 s30 s31 s32 s33 s34 s35 s36 i s D hrel
    show Code.wp _ _ _ _ _
    clear H0
    conv => arg 2; whnf
    obtain ⟨h1, h2, h3, h4⟩ := hrel
    by_cases hi : i < 16
    · have hi1 : (i : Int) < 16 := by omega
      have hx16 : set / 2 ^ (15 - i) < 65536 := Nat.lt_of_le_of_lt (Nat.div_le_self _ _) hset
      have hand : bits .and .i64 ((set : Int) / 2 ^ (15 - i)) 1 = ((set / 2 ^ (15 - i) % 2 : Nat) : Int) := by
        rw [← i64_and_one (set / 2 ^ (15 - i)) (by omega)]
        simp
      have hst := kidsR_step set sq s D i hi h4
      have HI := Lib.hid (And.intro h1 h2)
      have HN := Lib.hid h3
      have hm : bitAt set (15 - i) = decide (set / 2 ^ (15 - i) % 2 = 1) := rfl
      have HK : Hid (kidR set (15 - i) s = if bitAt set (15 - i) then bytesS s 32 else ([], s)) := Lib.hid rfl
      have hbit : set / 2 ^ (15 - i) % 2 < 2 := Nat.mod_lt _ (by omega)
      have HS := Lib.hid hst
      clear h4 hst h3 hset
      generalize set / 2 ^ (15 - i) = x at *
      generalize x % 2 = bt at *
      generalize kidR set (15 - i) s = kr at *
      by_cases hb : bt = 1
      · subst hb
        rw [hm, decide_eq_true rfl, if_pos rfl] at HK
        obtain ⟨b, s'⟩ := kr
        have HBy : Hid (∀ W, Rdr W g s → Calls Tryd.prog 62 #[.pointer (some ⟨g, 0, none⟩), .int .i64 32] W (RdrEnd W g (.string ⟨b.toArray⟩) s')) := Lib.hid (fun W hW => by
          have := code_RBytes W g s hW 32 (by omega)
          rw [← HK.out] at this
          exact this)
        have c3 : ∀ W, RdNd w0 W g nb s' (3, [], [], pad D) → W.cell? ⟨nb, 3 + i, none⟩ = some (.string ⟨((pad D).getD i []).toArray⟩) ∧ W.frozen? ⟨nb, 3 + i, none⟩ = false := fun W hW => ⟨by
          have h5 := hW.nd.cell (3 + i)
          rw [h5, List.getElem?_toArray]
          show (nodeV 3 [] [] (pad D))[3 + i]? = _
          rw [show 3 + i = i + 1 + 1 + 1 by omega]
          unfold nodeV
          rw [List.getElem?_cons_succ, List.getElem?_cons_succ, List.getElem?_cons_succ, strv_at (by rw [pad_len D (by omega)]; exact hi), List.getD_eq_getElem?_getD, List.getElem?_eq_getElem (show i < (pad D).length by rw [pad_len D (by omega)]; exact hi), Option.getD_some], hW.nd.frozen (3 + i)⟩
        have HC := Lib.hid c3
        replace hand : bits .and .i64 ((set : Int) / 2 ^ (15 - i)) 1 = 1 := hand
        clear c3 hm HK h1 h2
        go_upto_region 7 with fail
        go_region_held3 (fun _ => True) (first | trivial | go_keep) ((go_at_call 62; refine (HBy.out _ (by first | exact HN.out.rd | exact HN.out.drew.rd)).mono ?_; rintro e w2 ⟨rfl, hr2, hg2⟩; have N2 : Hid (RdNd w0 w2 g nb s' (3, [], [], pad D)) := Lib.hid (by first | exact HN.out.read hr2 hg2 | exact HN.out.drew.read hr2 hg2); obtain ⟨k3, f3⟩ := HC.out _ N2.out; clear hr2 hg2))
        go_wp2
        refine Handed.intro (16 - (i + 1)) ?_ (hJ1 _ _ _ (fun Φ hΦ => hΦ _ _ _ _ _ _ _ _ _ _ _ _ _ _ _ _ _ _ _ _ _ _ _ _ _ _ _ _ _ _ _ _ _ _ _ _ _ (i + 1) (s') (D ++ [b]) ?_))
        · have := HI.out.1; omega
        · have hI := HI.out
          refine ⟨by omega, by rw [List.length_append, hI.2]; rfl, ?_, HS.out⟩
          refine N2.out.write _ _ ?_
          rw [nodeV_put _ _ _ _ _ _ (by rw [pad_len D (by omega)]; omega), ← hI.2, pad_set D b (by omega)]
      · have hb0 : bt = 0 := by omega
        subst hb0
        rw [hm, decide_eq_false (by decide), if_neg (by decide)] at HK
        rw [HK.out] at HS
        replace hand : bits .and .i64 ((set : Int) / 2 ^ (15 - i)) 1 = 0 := hand
        clear hm HK h1 h2 hb
        go_wp2
        refine Handed.intro (16 - (i + 1)) ?_ (hJ1 _ _ _ (fun Φ hΦ => hΦ _ _ _ _ _ _ _ _ _ _ _ _ _ _ _ _ _ _ _ _ _ _ _ _ _ _ _ _ _ _ _ _ _ _ _ _ _ (i + 1) (s) (D ++ [[]]) ?_))
        · have := HI.out.1; omega
        · have hI := HI.out
          refine ⟨by omega, by rw [List.length_append, hI.2]; rfl, ?_, HS.out⟩
          rw [pad_nil_set D (by omega)]
          exact HN.out
    · obtain rfl : i = 16 := by omega
      have e : kidsR set 16 sq = (D, s) := by rw [h4]; simp [kidsR]
      rw [pad_full h2] at h3
      rw [e] at HQ
      have HN := Lib.hid h3
      clear h1 h2 h3 h4 e hi
      go_wp2
      exact HQ.out _ _ _ _ _ _ _ _ _ _ _ _ _ _ _ _ _ _ _ _ _ _ _ _ _ _ _ _ _ _ _ _ _ _ _ _ _ _ _ _ HN.out
end Go.Proofs.YtcjafcbekegmlaaDoor

namespace Go.Proofs.YtcjafcbekegmlaaDoor
set_option linter.unusedVariables false
open Go.RowKit Go.Instr
attribute [local go_sem] ba_get ByteArray.mk_append_mk
theorem bytesS_len (s : List UInt8 × Nat) (n : Nat) : (bytesS s n).1 = [] ∨ (bytesS s n).1.length = n := by
  unfold bytesS
  split
  · exact .inl rfl
  · split
    · right; rw [List.length_take]; omega
    · exact .inl rfl
theorem txtS_most (s : List UInt8 × Nat) (m : Nat) : (txtS s m).1.length ≤ m := by
  unfold txtS
  split
  · exact Nat.zero_le _
  · split
    · rename_i h
      exact (txtT_back (s := s.1) (t := (txtT s.1 m).1) (r := (txtT s.1 m).2.1) (by rw [← h])).2
    · exact Nat.zero_le _
theorem RdNd.at0 {w0 w : World} {g nb : Nat} {s : List UInt8 × Nat} {n : Nd} (h : RdNd w0 w g nb s n) : w.cell? ⟨nb, 0, none⟩ = some (.int .i64 (n.1 : Int)) ∧ w.cell? ⟨nb, 1, none⟩ = some (.string ⟨n.2.1.toArray⟩) ∧ w.cell? ⟨nb, 2, none⟩ = some (.string ⟨n.2.2.1.toArray⟩) :=
  ⟨h.nd.cell 0, h.nd.cell 1, h.nd.cell 2⟩
set_option maxRecDepth 100000 in
set_option maxHeartbeats 2000000 in
theorem node_branch (w0 w : World) (g nb : Nat) (s : List UInt8 × Nat) (H : RdNd w0 w g nb s (3, [], [], zeroK)) :
    Calls Tryd.prog 63 #[.pointer (some ⟨g, 0, none⟩), .pointer (some ⟨nb, 0, none⟩)] w (RdNdEnd w0 g nb (.tuple #[]) (brR s).2 (3, [], (brR s).1.1, (brR s).1.2)) := by
  have HP : Hid (∀ w' st v K, brR s = ((v, K), st) → RdNd w0 w' g nb st (3, [], v, K) → RdNdEnd w0 g nb (.tuple #[]) (brR s).2 (3, [], (brR s).1.1, (brR s).1.2) (.returned (.tuple #[])) w') := Lib.hid (fun w' st v K e h => ⟨rfl, by rw [e]; exact h⟩)
  have HX : Hid (brR s = if (bytesS s 2).1 = [] then (([], zeroK), (bytesS s 2).2)
  else (((txtS (kidsR (set2 (bytesS s 2).1) 16 (bytesS s 2).2).2 32).1, (kidsR (set2 (bytesS s 2).1) 16 (bytesS s 2).2).1), (txtS (kidsR (set2 (bytesS s 2).1) 16 (bytesS s 2).2).2 32).2)) := Lib.hid rfl
  generalize RdNdEnd w0 g nb (.tuple #[]) (brR s).2 (3, [], (brR s).1.1, (brR s).1.2) = P at HP ⊢
  generalize brR s = X at *
  have HBy := Lib.hid (code_RBytes w g s H.rd 2 (by omega))
  have HN := Lib.hid H
  have hlen := bytesS_len s 2
  clear H
  generalize bytesS s 2 = br at *
  obtain ⟨bits, s1⟩ := br
  simp only at HX HBy hlen
  by_cases hb : bits = []
  · subst hb
    have HE : Hid (X = (([], zeroK), s1)) := Lib.hid (by rw [HX.out, if_pos rfl])
    clear HX hlen
    go_enter Tryd.func63, Tryd.ntmps63
    go_wp2_with fail
    refine HBy.out.mono ?_
    rintro e w1 ⟨rfl, h1, h2⟩
    have HF := Lib.hid (HP.out w1 s1 [] zeroK HE.out (HN.out.read h1 h2))
    clear h1 h2
    go_wp2_with fail
    go_end0
    exact HF.out
  · rw [if_neg hb] at HX
    obtain ⟨x, y, rfl⟩ := two_of_len (hlen.resolve_left hb)
    have hx := x.toNat_lt
    have hy := y.toNat_lt
    have hset : set2 [x, y] = x.toNat * 256 + y.toNat := rfl
    rw [hset] at HX
    have hor := i64_or_byte x.toNat y.toNat hy (by omega)
    have hlt : x.toNat * 256 + y.toNat < 65536 := by omega
    have HL := Lib.hid hlt
    clear hset hlen hb
    generalize x.toNat * 256 + y.toNat = set at *
    go_enter Tryd.func63, Tryd.ntmps63
    go_wp2_with fail
    refine HBy.out.mono ?_
    rintro e w1 ⟨rfl, h1, h2⟩
    have N1 := Lib.hid (HN.out.read h1 h2)
    clear h1 h2 hlt
    go_wp2_with fail
    go_quiet (fail)
    go_wp2_with fail
    refine branch_loop w0 _ g nb set HL.out s1 ⟨#[]⟩ (Lib.hid (N1.out.drewN _)) _ ?_ _ _ _ _ _ _ _ _ _ _ _ _ _ _ _ _ _ _ _ _ _ _ _ _ _ _ _ _ _ _ _ _ _ _ _ _ _
    clear hor N1
    intro s2 s3 s4 s5 s6 s7 s8 s9 s10 s11 s12 s13 s14 s15 s16 s17 s18 s19 s20 s21 s22 s23 s24 s25 s26 s27 s28 s29 s30 s31 s32 s33 s34 s35 s36 s37 s38 s39 s40 w2 h2
    generalize kidsR set 16 s1 = kr at *
    obtain ⟨K, s3⟩ := kr
    simp only at HX h2
    have HT := Lib.hid (code_RText w2 g s3 h2.rd 32 (by omega))
    have N2 := Lib.hid h2
    generalize txtS s3 32 = tr at *
    obtain ⟨v, s4⟩ := tr
    simp only at HX HT
    clear h2
    go_wp2_with fail
    refine HT.out.mono ?_
    rintro e w3 ⟨rfl, h3, h4⟩
    have N3 := Lib.hid (N2.out.read h3 h4)
    have k2 : w3.cell? ⟨nb, 2, none⟩ = some (.string ⟨#[]⟩) := N3.out.at0.2.2
    have f2 : w3.frozen? ⟨nb, 2, none⟩ = false := N3.out.nd.frozen 2
    clear h3 h4
    go_wp2_with fail
    go_end0
    exact HP.out _ s4 v K HX.out (N3.out.write 2 _ rfl)
theorem otR_eq (most k : Nat) (s : List UInt8 × Nat) : otR most k s = if k = 1 then (((Nib.unpack (txtS s most).1).1, (txtS (txtS s most).2 32).1, zeroK), (txtS (txtS s most).2 32).2, decide ((Nib.unpack (txtS s most).1).2.2 = 0) && (Nib.unpack (txtS s most).1).2.1)
  else (((Nib.unpack (txtS s most).1).1, [], (bytesS (txtS s most).2 32).1 :: List.replicate 15 []), (bytesS (txtS s most).2 32).2, decide ((Nib.unpack (txtS s most).1).2.2 = 0) && !(Nib.unpack (txtS s most).1).2.1) := rfl
set_option maxRecDepth 100000 in
set_option maxHeartbeats 2000000 in
theorem node_other (w0 w : World) (g nb k : Nat) (s : List UInt8 × Nat) (H : RdNd w0 w g nb s (k, [], [], zeroK)) :
    Calls Tryd.prog 64 #[.pointer (some ⟨g, 0, none⟩), .pointer (some ⟨nb, 0, none⟩)] w (RdNdEnd w0 g nb (.bool (otR 16 k s).2.2) (otR 16 k s).2.1 (k, (otR 16 k s).1)) := by
  have HP : Hid (∀ w' st n b, otR 16 k s = (n, st, b) → RdNd w0 w' g nb st (k, n) → RdNdEnd w0 g nb (.bool (otR 16 k s).2.2) (otR 16 k s).2.1 (k, (otR 16 k s).1) (.returned (.bool b)) w') := Lib.hid (fun w' st v K e h => by rw [e]; exact ⟨rfl, h⟩)
  have HX := Lib.hid (otR_eq 16 k s)
  generalize RdNdEnd w0 g nb (.bool (otR 16 k s).2.2) (otR 16 k s).2.1 (k, (otR 16 k s).1) = P at HP ⊢
  generalize otR 16 k s = X at *
  have HT := Lib.hid (code_RText w g s H.rd 16 (by omega))
  have hl := txtS_most s 16
  have HN := Lib.hid H
  clear H
  generalize txtS s 16 = tr at *
  obtain ⟨t, s1⟩ := tr
  simp only at HX HT hl
  have HU := Lib.hid (fun W => nib_Unpack t W (by omega))
  clear hl
  generalize Nib.unpack t = u at *
  obtain ⟨p, leaf, ec⟩ := u
  simp only at HX HU
  by_cases hk : k = 1
  · subst hk
    rw [if_pos rfl] at HX
    go_enter Tryd.func64, Tryd.ntmps64
    go_wp2_with fail
    refine HT.out.mono ?_
    rintro e w1 ⟨rfl, h1, h2⟩
    have N1 := Lib.hid (HN.out.read h1 h2)
    clear h1 h2
    go_wp2_with fail
    refine (HU.out _).mono ?_
    rintro e w2 ⟨rfl, hb2⟩
    have N2 : Hid (RdNd w0 w2 g nb s1 (1, [], [], zeroK)) := Lib.hid (N1.out.below hb2)
    have k1 : w2.cell? ⟨nb, 1, none⟩ = some (.string ⟨#[]⟩) := N2.out.at0.2.1
    have f1 : w2.frozen? ⟨nb, 1, none⟩ = false := N2.out.nd.frozen 1
    have k0 : w2.cell? ⟨nb, 0, none⟩ = some (.int .i64 1) := N2.out.at0.1
    clear hb2
    go_upto_region 3 with fail
    have N3 : Hid (RdNd w0 (w2.setCell ⟨nb, 1, none⟩ (.string ⟨p.toArray⟩)) g nb s1 (1, p, [], zeroK)) := Lib.hid (N2.out.write 1 _ rfl)
    generalize w2.setCell ⟨nb, 1, none⟩ (.string ⟨p.toArray⟩) = W3 at *
    clear k0 k1 f1
    have k0 : W3.cell? ⟨nb, 0, none⟩ = some (.int .i64 1) := N3.out.at0.1
    have HV := Lib.hid (code_RText W3 g s1 N3.out.rd 32 (by omega))
    generalize txtS s1 32 = vr at *
    obtain ⟨v, s2⟩ := vr
    simp only at HX HV
    go_wp2_with fail
    refine HV.out.mono ?_
    rintro e w4 ⟨rfl, h3, h4⟩
    have N4 := Lib.hid (N3.out.read h3 h4)
    clear k0 h3 h4
    have k0 : w4.cell? ⟨nb, 0, none⟩ = some (.int .i64 1) := N4.out.at0.1
    have k2 : w4.cell? ⟨nb, 2, none⟩ = some (.string ⟨#[]⟩) := N4.out.at0.2.2
    have f2 : w4.frozen? ⟨nb, 2, none⟩ = false := N4.out.nd.frozen 2
    by_cases he : ec = 0
    · subst he
      cases leaf with
      | true =>
        go_wp2_with fail
        exact HP.out _ s2 _ _ HX.out (N4.out.write 2 _ rfl)
      | false =>
        go_wp2_with fail
        exact HP.out _ s2 _ _ HX.out (N4.out.write 2 _ rfl)
    · have hee : ((ec : Int) == 0) = false := by simp; exact he
      rw [decide_eq_false he] at HX
      clear he
      go_wp2_with fail
      exact HP.out _ s2 _ _ HX.out (N4.out.write 2 _ rfl)
  · rw [if_neg hk] at HX
    have hkI : ((k : Int) == 1) = false := by simp; omega
    go_enter Tryd.func64, Tryd.ntmps64
    go_wp2_with fail
    refine HT.out.mono ?_
    rintro e w1 ⟨rfl, h1, h2⟩
    have N1 := Lib.hid (HN.out.read h1 h2)
    clear h1 h2
    go_wp2_with fail
    refine (HU.out _).mono ?_
    rintro e w2 ⟨rfl, hb2⟩
    have N2 : Hid (RdNd w0 w2 g nb s1 (k, [], [], zeroK)) := Lib.hid (N1.out.below hb2)
    have k1 : w2.cell? ⟨nb, 1, none⟩ = some (.string ⟨#[]⟩) := N2.out.at0.2.1
    have f1 : w2.frozen? ⟨nb, 1, none⟩ = false := N2.out.nd.frozen 1
    have k0 : w2.cell? ⟨nb, 0, none⟩ = some (.int .i64 (k : Int)) := N2.out.at0.1
    clear hb2
    go_upto_region 3 with fail
    have N3 : Hid (RdNd w0 (w2.setCell ⟨nb, 1, none⟩ (.string ⟨p.toArray⟩)) g nb s1 (k, p, [], zeroK)) := Lib.hid (N2.out.write 1 _ rfl)
    generalize w2.setCell ⟨nb, 1, none⟩ (.string ⟨p.toArray⟩) = W3 at *
    clear k0 k1 f1
    have k0 : W3.cell? ⟨nb, 0, none⟩ = some (.int .i64 (k : Int)) := N3.out.at0.1
    have HV := Lib.hid (fun W (hW : Rdr W g s1) => code_RBytes W g s1 hW 32 (by omega))
    generalize bytesS s1 32 = vr at *
    obtain ⟨v, s2⟩ := vr
    simp only at HX HV
    go_upto_region 5 with fail
    clear k0
    go_region_held3 (fun _ => True) (first | trivial | go_keep) ((go_at_call 62; refine (HV.out _ (by first | exact N3.out.rd | exact N3.out.drew.rd)).mono ?_; rintro e w4 ⟨rfl, hr2, hg2⟩; have N4 : Hid (RdNd w0 w4 g nb s2 (k, p, [], zeroK)) := Lib.hid (by first | exact N3.out.read hr2 hg2 | exact N3.out.drew.read hr2 hg2); have k3 : w4.cell? ⟨nb, 3, none⟩ = some (.string ⟨#[]⟩) := N4.out.nd.cell 3; have f3 : w4.frozen? ⟨nb, 3, none⟩ = false := N4.out.nd.frozen 3; have k0 : w4.cell? ⟨nb, 0, none⟩ = some (.int .i64 (k : Int)) := N4.out.at0.1; clear hr2 hg2))
    by_cases he : ec = 0
    · subst he
      cases leaf with
      | true =>
        go_wp2_with fail
        exact HP.out _ s2 _ _ HX.out (N4.out.write 3 _ rfl)
      | false =>
        go_wp2_with fail
        exact HP.out _ s2 _ _ HX.out (N4.out.write 3 _ rfl)
    · have hee : ((ec : Int) == 0) = false := by simp; exact he
      rw [decide_eq_false he] at HX
      clear he
      go_wp2_with fail
      exact HP.out _ s2 _ _ HX.out (N4.out.write 3 _ rfl)
end Go.Proofs.YtcjafcbekegmlaaDoor

namespace Go.Proofs.YtcjafcbekegmlaaDoor
set_option linter.unusedVariables false
open Go.RowKit Go.Instr
attribute [local go_sem] ba_get ByteArray.mk_append_mk
def DecNEnd (w : World) (r : Nd × Nat) (e : Ending) (w' : World) : Prop := e = .returned (.tuple #[.agg (nodeV r.1.1 r.1.2.1 r.1.2.2.1 r.1.2.2.2).toArray, .int .i64 (r.2 : Int)]) ∧ Below w.heap.size w w'
theorem kidsR_short (set : Nat) : ∀ n s, ∀ x ∈ (kidsR set n s).1, x.length ≤ 32
  | 0, s, x, h => by simp [kidsR] at h
  | n + 1, s, x, h => by
    simp only [kidsR, List.mem_cons] at h
    rcases h with rfl | h
    · unfold kidR
      split
      · rcases bytesS_len s 32 with h | h
        · rw [h]; exact Nat.zero_le _
        · omega
      · exact Nat.zero_le _
    · exact kidsR_short set n _ x h
theorem zeroK_short : ∀ x ∈ zeroK, x.length ≤ 32 := by intro x h; rw [List.eq_of_mem_replicate h]; exact Nat.zero_le _
theorem readN_short (most : Nat) (hm : most ≤ 1000) (s : List UInt8) : (readN most s).1.2.1.length ≤ 2000 ∧ (readN most s).1.2.2.1.length ≤ 32 ∧ (readN most s).1.2.2.2.length = 16 ∧ ∀ x ∈ (readN most s).1.2.2.2, x.length ≤ 32 := by
  unfold readN
  split
  · refine ⟨Nat.zero_le _, ?_, ?_, ?_⟩
    · unfold brR
      split
      · exact Nat.zero_le _
      · exact txtS_most _ _
    · unfold brR
      split
      · rfl
      · exact kidsR_length _ _ _
    · unfold brR
      split
      · exact zeroK_short
      · exact kidsR_short _ _ _
  · unfold otR
    split
    · refine ⟨?_, txtS_most _ _, rfl, zeroK_short⟩
      have h1 := Nib.unpack_length (txtS (bytesS (s, 0) 1).2 most).1
      have h2 := txtS_most (bytesS (s, 0) 1).2 most
      show (Nib.unpack _).1.length ≤ 2000
      omega
    · refine ⟨?_, Nat.zero_le _, rfl, ?_⟩
      · have h1 := Nib.unpack_length (txtS (bytesS (s, 0) 1).2 most).1
        have h2 := txtS_most (bytesS (s, 0) 1).2 most
        show (Nib.unpack _).1.length ≤ 2000
        omega
      · intro x hx
        rcases List.mem_cons.1 hx with rfl | hx
        · rcases bytesS_len (txtS (bytesS (s, 0) 1).2 most).2 32 with h | h
          · rw [h]; exact Nat.zero_le _
          · omega
        · rw [List.eq_of_mem_replicate hx]; exact Nat.zero_le _
theorem readN_3 (most : Nat) (s : List UInt8) (h : kindR s = 3) : readN most s = ((3, [], (brR (bytesS (s, 0) 1).2).1.1, (brR (bytesS (s, 0) 1).2).1.2), (brR (bytesS (s, 0) 1).2).2, true) := by unfold readN; rw [if_pos h]
theorem readN_o (most : Nat) (s : List UInt8) (h : kindR s ≠ 3) : readN most s = ((kindR s, (otR most (kindR s) (bytesS (s, 0) 1).2).1), (otR most (kindR s) (bytesS (s, 0) 1).2).2) := by unfold readN; rw [if_neg h]
theorem decN_eq (s : List UInt8) : decN s = if endS (readN 16 s).2.1 ≠ 0 ∨ (readN 16 s).2.2 = false ∨ fineD (readN 16 s).1 = false then (zeroN, 80) else ((readN 16 s).1, 0) := rfl
theorem Live.one {w W : World} {g t : Nat} {cs : Array Value} (hb : Below w.heap.size w W) (hg : w.heap.size ≤ g) (h : Blk W g t cs) : Live w W [(g, t, cs)] :=
  ⟨hb, fun x hx => by rw [List.mem_singleton] at hx; subst hx; exact ⟨hg, h⟩, List.pairwise_singleton _ _⟩
theorem nodeV_one (k : Nat) (p v : List UInt8) (K : List (List UInt8)) : (nodeV k p v K).toArray.all (·.oneCell') = true := by
  refine all_oneCell_toArray fun u hu => ?_
  unfold nodeV at hu
  simp only [List.mem_cons] at hu
  rcases hu with rfl | rfl | rfl | hu
  · rfl
  · rfl
  · rfl
  · exact strv_one _ _ hu
theorem Blk.range0 {w : World} {g t : Nat} {cs : List Value} (h : Blk w g t cs.toArray) : w.rangeAt g 0 cs := fun j u hu => by rw [Nat.zero_add]; exact (h.cell j).trans (by simpa using hu)
theorem results_cell2 {P : Program} {fn : Func} {tmps : Array Value} {w : World} {a b : Tmp} {t : TypeId} {p : Addr} {v u : Value} (hr : fn.results = #[.cell a t, .tmp b]) (ha : tmps.getD a undef = .pointer (some p)) (hv : (loadVar t p).run P w = .ok v w) (hb : tmps.getD b undef = u) :
    (results fn tmps).run P w = .ok (.tuple #[v, u]) w := by
  unfold results
  rw [hr]
  rw [Array.getD_eq_getD_getElem?] at ha hb
  simp [Sem.run_bind, ha, hv, hb, asAddr]
theorem zeros_eq : (#[.int .i64 0, .string ⟨#[]⟩, .string ⟨#[]⟩, .string ⟨#[]⟩, .string ⟨#[]⟩, .string ⟨#[]⟩, .string ⟨#[]⟩, .string ⟨#[]⟩, .string ⟨#[]⟩, .string ⟨#[]⟩, .string ⟨#[]⟩, .string ⟨#[]⟩, .string ⟨#[]⟩, .string ⟨#[]⟩, .string ⟨#[]⟩, .string ⟨#[]⟩, .string ⟨#[]⟩, .string ⟨#[]⟩, .string ⟨#[]⟩] : Array Value) = (nodeV 0 [] [] zeroK).toArray := rfl
set_option maxRecDepth 100000 in
set_option maxHeartbeats 2000000 in
theorem node_Decode (w : World) (s : List UInt8) (hs : s.length ≤ 1000000) :
    Calls Tryd.prog 47 #[.string ⟨s.toArray⟩] w (DecNEnd w (decN s)) := by
  have HP : Hid (∀ w' n (c : Nat), decN s = (n, c) → Below w.heap.size w w' → DecNEnd w (decN s) (.returned (.tuple #[.agg (nodeV n.1 n.2.1 n.2.2.1 n.2.2.2).toArray, .int .i64 (c : Int)])) w') := Lib.hid (fun w' n c e h => by rw [e]; exact ⟨rfl, h⟩)
  generalize DecNEnd w (decN s) = P at HP ⊢
  have HX := Lib.hid (decN_eq s)
  have HS := Lib.hid (readN_short 16 (by omega) s)
  have H3 := Lib.hid (readN_3 16 s)
  have HO := Lib.hid (readN_o 16 s)
  have HL := Lib.hid hs
  clear hs
  go_enter Tryd.func47, Tryd.ntmps47
  go_upto_region 1 with fail
  obtain ⟨rb, hrb⟩ : ∃ rb, w.heap.size = rb := ⟨_, rfl⟩
  have b1 : Hid (Blk (w.alloc (.cells #[.int .i64 0, .string ⟨#[]⟩, .string ⟨#[]⟩, .string ⟨#[]⟩, .string ⟨#[]⟩, .string ⟨#[]⟩, .string ⟨#[]⟩, .string ⟨#[]⟩, .string ⟨#[]⟩, .string ⟨#[]⟩, .string ⟨#[]⟩, .string ⟨#[]⟩, .string ⟨#[]⟩, .string ⟨#[]⟩, .string ⟨#[]⟩, .string ⟨#[]⟩, .string ⟨#[]⟩, .string ⟨#[]⟩, .string ⟨#[]⟩] 70)) rb 70 #[.int .i64 0, .string ⟨#[]⟩, .string ⟨#[]⟩, .string ⟨#[]⟩, .string ⟨#[]⟩, .string ⟨#[]⟩, .string ⟨#[]⟩, .string ⟨#[]⟩, .string ⟨#[]⟩, .string ⟨#[]⟩, .string ⟨#[]⟩, .string ⟨#[]⟩, .string ⟨#[]⟩, .string ⟨#[]⟩, .string ⟨#[]⟩, .string ⟨#[]⟩, .string ⟨#[]⟩, .string ⟨#[]⟩, .string ⟨#[]⟩] ∧ Below w.heap.size w (w.alloc (.cells #[.int .i64 0, .string ⟨#[]⟩, .string ⟨#[]⟩, .string ⟨#[]⟩, .string ⟨#[]⟩, .string ⟨#[]⟩, .string ⟨#[]⟩, .string ⟨#[]⟩, .string ⟨#[]⟩, .string ⟨#[]⟩, .string ⟨#[]⟩, .string ⟨#[]⟩, .string ⟨#[]⟩, .string ⟨#[]⟩, .string ⟨#[]⟩, .string ⟨#[]⟩, .string ⟨#[]⟩, .string ⟨#[]⟩, .string ⟨#[]⟩] 70)) ∧ w.heap.size ≤ rb) := Lib.hid (by subst hrb; exact ⟨Blk.new w _ _, by go_grown, Nat.le_refl _⟩)
  rw [hrb]
  generalize w.alloc (.cells #[.int .i64 0, .string ⟨#[]⟩, .string ⟨#[]⟩, .string ⟨#[]⟩, .string ⟨#[]⟩, .string ⟨#[]⟩, .string ⟨#[]⟩, .string ⟨#[]⟩, .string ⟨#[]⟩, .string ⟨#[]⟩, .string ⟨#[]⟩, .string ⟨#[]⟩, .string ⟨#[]⟩, .string ⟨#[]⟩, .string ⟨#[]⟩, .string ⟨#[]⟩, .string ⟨#[]⟩, .string ⟨#[]⟩, .string ⟨#[]⟩] 70) = W1 at b1 ⊢
  clear hrb
  go_upto_region 3 with (go_at_call 61; refine (code_Read s _).mono ?_; rintro e w2 ⟨rfl, rfl⟩)
  have N0 : Hid (RdNd W1 ((W1.alloc (.cells #[.string ⟨s.toArray⟩, .int .i64 0, .int .i64 0] 121)).alloc (.cells #[.int .i64 0, .string ⟨#[]⟩, .string ⟨#[]⟩, .string ⟨#[]⟩, .string ⟨#[]⟩, .string ⟨#[]⟩, .string ⟨#[]⟩, .string ⟨#[]⟩, .string ⟨#[]⟩, .string ⟨#[]⟩, .string ⟨#[]⟩, .string ⟨#[]⟩, .string ⟨#[]⟩, .string ⟨#[]⟩, .string ⟨#[]⟩, .string ⟨#[]⟩, .string ⟨#[]⟩, .string ⟨#[]⟩, .string ⟨#[]⟩] 70)) W1.heap.size (W1.heap.size + 1) (s, 0) zeroN) := Lib.hid ⟨⟨s, 0, (Blk.new W1 _ _).alloc _, Nat.zero_le _, HL.out, rfl⟩, by have := Blk.new (W1.alloc (.cells #[.string ⟨s.toArray⟩, .int .i64 0, .int .i64 0] 121)) 70 #[.int .i64 0, .string ⟨#[]⟩, .string ⟨#[]⟩, .string ⟨#[]⟩, .string ⟨#[]⟩, .string ⟨#[]⟩, .string ⟨#[]⟩, .string ⟨#[]⟩, .string ⟨#[]⟩, .string ⟨#[]⟩, .string ⟨#[]⟩, .string ⟨#[]⟩, .string ⟨#[]⟩, .string ⟨#[]⟩, .string ⟨#[]⟩, .string ⟨#[]⟩, .string ⟨#[]⟩, .string ⟨#[]⟩, .string ⟨#[]⟩]; rw [World.size_alloc] at this; exact this, by omega, Nat.le_refl _, by omega, by go_grown⟩
  generalize ((W1.alloc (.cells #[.string ⟨s.toArray⟩, .int .i64 0, .int .i64 0] 121)).alloc (.cells #[.int .i64 0, .string ⟨#[]⟩, .string ⟨#[]⟩, .string ⟨#[]⟩, .string ⟨#[]⟩, .string ⟨#[]⟩, .string ⟨#[]⟩, .string ⟨#[]⟩, .string ⟨#[]⟩, .string ⟨#[]⟩, .string ⟨#[]⟩, .string ⟨#[]⟩, .string ⟨#[]⟩, .string ⟨#[]⟩, .string ⟨#[]⟩, .string ⟨#[]⟩, .string ⟨#[]⟩, .string ⟨#[]⟩, .string ⟨#[]⟩] 70)) = W3 at N0 ⊢
  generalize W1.heap.size + 1 = nb at N0 ⊢
  generalize W1.heap.size = g at N0 ⊢
  have HBy := Lib.hid (code_RBytes W3 g (s, 0) N0.out.rd 1 (by omega))
  have hkd : (s = [] ∧ (bytesS (s, 0) 1).1 = []) ∨ ∃ c r, s = c :: r ∧ (bytesS (s, 0) 1).1 = [c] := by
    cases s with
    | nil => exact .inl ⟨rfl, rfl⟩
    | cons c r => exact .inr ⟨c, r, rfl, by unfold bytesS; simp⟩
  generalize bytesS (s, 0) 1 = br at *
  obtain ⟨kd, s1⟩ := br
  simp only at HBy hkd H3 HO
  have HKD := Lib.hid hkd
  clear hkd
  go_wp2_with fail
  refine HBy.out.mono ?_
  rintro e w2 ⟨rfl, h1, h2⟩
  have N1 : Hid (RdNd W1 w2 g nb s1 zeroN) := Lib.hid (N0.out.read h1 h2)
  clear h1 h2 HBy N0
  go_upto_if 13 with fail
  go_cut [] (fun wx => RdNd W1 wx g nb s1 (kindR s, [], [], zeroK))
  case first =>
    rcases HKD.out with ⟨e1, e2⟩ | ⟨c, r, e1, e2⟩
    · subst e2
      have hkr : kindR s = 0 := by rw [e1]; rfl
      have HF : Hid (RdNd W1 w2 g nb s1 (kindR s, [], [], zeroK)) := Lib.hid (by rw [hkr]; exact N1.out)
      clear e1 hkr HKD
      go_wp2_with fail
      go_meet
      exact HF.out
    · subst e2
      have hkr : kindR s = c.toNat := by rw [e1]; rfl
      have HR := Lib.hid hkr
      have hw : wrap64 (c.toNat : Int) = (c.toNat : Int) := IntWalk.wrap64_in _ (by have := c.toNat_lt; constructor <;> omega)
      have k0 : w2.cell? ⟨nb, 0, none⟩ = some (.int .i64 0) := N1.out.at0.1
      have f0 : w2.frozen? ⟨nb, 0, none⟩ = false := N1.out.nd.frozen 0
      clear e1 hkr HKD
      go_wp2_with fail
      go_meet
      rw [HR.out]
      exact N1.out.write 0 _ rfl
  case rest =>
  have N2 := Lib.hid hcut
  clear hcut N1 HKD
  generalize hkk : kindR s = kk at *
  clear hkk
  have k0 : wc.cell? ⟨nb, 0, none⟩ = some (.int .i64 (kk : Int)) := N2.out.at0.1
  go_upto_if 20 with fail
  go_cut [7] (fun s7 wx => ∃ n st b, s7 = .bool b ∧ readN 16 s = (n, st, b) ∧ RdNd W1 wx g nb st n)
  case first =>
    by_cases hk : kk = 3
    · subst hk
      have e := H3.out rfl
      have HB := Lib.hid (node_branch W1 wc g nb s1 N2.out)
      generalize brR s1 = B at e HB
      obtain ⟨⟨nv, nK⟩, st⟩ := B
      simp only at e HB
      have HE := Lib.hid e
      clear e k0 H3 HO N2 HX HS
      go_wp2_with fail
      refine HB.out.mono ?_
      rintro e w4 ⟨rfl, n4⟩
      have N4 := Lib.hid n4
      clear n4
      go_wp2_with fail
      go_meet
      exact ⟨_, _, _, rfl, HE.out, N4.out⟩
    · have e := HO.out hk
      have hkI : ((kk : Int) == 3) = false := by simp; omega
      have HB := Lib.hid (node_other W1 wc g nb kk s1 N2.out)
      generalize otR 16 kk s1 = B at e HB
      obtain ⟨⟨np, nv, nK⟩, st, fb⟩ := B
      simp only at e HB
      have HE := Lib.hid e
      clear e hk k0 H3 HO N2 HX HS
      go_wp2_with fail
      refine HB.out.mono ?_
      rintro e w4 ⟨rfl, n4⟩
      have N4 := Lib.hid n4
      clear n4
      go_wp2_with fail
      go_meet
      exact ⟨_, _, _, rfl, HE.out, N4.out⟩
  case rest =>
  obtain ⟨⟨k, p, v, K⟩, st, fb, h7, e, n4⟩ := hcut
  subst h7
  rw [e] at HX HS
  simp only at HX HS
  have N4 := Lib.hid n4
  clear k0 N2 H3 HO e n4
  have HEn := Lib.hid (code_REnd wc g st N4.out.rd)
  generalize hen : endS st = en at HX HEn
  clear hen
  go_upto_region 10 with fail
  by_cases he : en = 0
  · subst he
    cases fb with
    | false =>
      have HE : Hid (decN s = (zeroN, 80)) := Lib.hid (by rw [HX.out, if_pos (.inr (.inl rfl))])
      clear HX
      go_wp2_with fail
      refine HEn.out.mono ?_
      rintro e w5 ⟨rfl, h5, h6⟩
      have N5 := Lib.hid (N4.out.read h5 h6)
      clear h5 h6
      have F5 : Hid (Live w w5 [(rb, 70, #[.int .i64 0, .string ⟨#[]⟩, .string ⟨#[]⟩, .string ⟨#[]⟩, .string ⟨#[]⟩, .string ⟨#[]⟩, .string ⟨#[]⟩, .string ⟨#[]⟩, .string ⟨#[]⟩, .string ⟨#[]⟩, .string ⟨#[]⟩, .string ⟨#[]⟩, .string ⟨#[]⟩, .string ⟨#[]⟩, .string ⟨#[]⟩, .string ⟨#[]⟩, .string ⟨#[]⟩, .string ⟨#[]⟩, .string ⟨#[]⟩])]) := Lib.hid (Live.one (b1.out.2.1.nxt N5.out.b) b1.out.2.2 (b1.out.1.below N5.out.b b1.out.1.lt))
      have TH := F5.out.there 0 19 rfl (by decide)
      have HON : (#[.int .i64 0, .string ⟨#[]⟩, .string ⟨#[]⟩, .string ⟨#[]⟩, .string ⟨#[]⟩, .string ⟨#[]⟩, .string ⟨#[]⟩, .string ⟨#[]⟩, .string ⟨#[]⟩, .string ⟨#[]⟩, .string ⟨#[]⟩, .string ⟨#[]⟩, .string ⟨#[]⟩, .string ⟨#[]⟩, .string ⟨#[]⟩, .string ⟨#[]⟩, .string ⟨#[]⟩, .string ⟨#[]⟩, .string ⟨#[]⟩] : Array Value).all (·.oneCell') = true := by rw [zeros_eq]; exact nodeV_one _ _ _ _
      go_wp2_with (first | ((with_reducible refine at_op 37 ?_); refine wpList_build_eq rfl 70 _ rfl #[.int .i64 0, .string ⟨#[]⟩, .string ⟨#[]⟩, .string ⟨#[]⟩, .string ⟨#[]⟩, .string ⟨#[]⟩, .string ⟨#[]⟩, .string ⟨#[]⟩, .string ⟨#[]⟩, .string ⟨#[]⟩, .string ⟨#[]⟩, .string ⟨#[]⟩, .string ⟨#[]⟩, .string ⟨#[]⟩, .string ⟨#[]⟩, .string ⟨#[]⟩, .string ⟨#[]⟩, .string ⟨#[]⟩, .string ⟨#[]⟩] (by simp only [List.map_toArray, List.map_cons, List.map_nil]; kernel_rfl) ?_) | ((with_reducible refine at_put 37 ?_); refine wpList_store_mid rfl 70 _ _ rfl rb 0 #[.int .i64 0, .string ⟨#[]⟩, .string ⟨#[]⟩, .string ⟨#[]⟩, .string ⟨#[]⟩, .string ⟨#[]⟩, .string ⟨#[]⟩, .string ⟨#[]⟩, .string ⟨#[]⟩, .string ⟨#[]⟩, .string ⟨#[]⟩, .string ⟨#[]⟩, .string ⟨#[]⟩, .string ⟨#[]⟩, .string ⟨#[]⟩, .string ⟨#[]⟩, .string ⟨#[]⟩, .string ⟨#[]⟩, .string ⟨#[]⟩] rfl rfl TH info_node HON ?_; have F6 := Live.hall F5 0 (#[.int .i64 0, .string ⟨#[]⟩, .string ⟨#[]⟩, .string ⟨#[]⟩, .string ⟨#[]⟩, .string ⟨#[]⟩, .string ⟨#[]⟩, .string ⟨#[]⟩, .string ⟨#[]⟩, .string ⟨#[]⟩, .string ⟨#[]⟩, .string ⟨#[]⟩, .string ⟨#[]⟩, .string ⟨#[]⟩, .string ⟨#[]⟩, .string ⟨#[]⟩, .string ⟨#[]⟩, .string ⟨#[]⟩, .string ⟨#[]⟩] : Array Value).toList rfl rfl; generalize World.setCells _ rb 0 _ = W6 at F6 ⊢; have ld : (loadVar 70 ⟨rb, 0, none⟩).run Tryd.prog W6 = .ok (.agg #[.int .i64 0, .string ⟨#[]⟩, .string ⟨#[]⟩, .string ⟨#[]⟩, .string ⟨#[]⟩, .string ⟨#[]⟩, .string ⟨#[]⟩, .string ⟨#[]⟩, .string ⟨#[]⟩, .string ⟨#[]⟩, .string ⟨#[]⟩, .string ⟨#[]⟩, .string ⟨#[]⟩, .string ⟨#[]⟩, .string ⟨#[]⟩, .string ⟨#[]⟩, .string ⟨#[]⟩, .string ⟨#[]⟩, .string ⟨#[]⟩]) W6 := run_loadVar_mid (P := Tryd.prog) W6 rb 0 70 (#[.int .i64 0, .string ⟨#[]⟩, .string ⟨#[]⟩, .string ⟨#[]⟩, .string ⟨#[]⟩, .string ⟨#[]⟩, .string ⟨#[]⟩, .string ⟨#[]⟩, .string ⟨#[]⟩, .string ⟨#[]⟩, .string ⟨#[]⟩, .string ⟨#[]⟩, .string ⟨#[]⟩, .string ⟨#[]⟩, .string ⟨#[]⟩, .string ⟨#[]⟩, .string ⟨#[]⟩, .string ⟨#[]⟩, .string ⟨#[]⟩] : Array Value).toList _ (Blk.range0 (F6.out.blk 0 rfl)) Tryd.underlying70 rfl info_node; clear TH))
      have HF : P (.returned (.tuple #[.agg #[.int .i64 0, .string ⟨#[]⟩, .string ⟨#[]⟩, .string ⟨#[]⟩, .string ⟨#[]⟩, .string ⟨#[]⟩, .string ⟨#[]⟩, .string ⟨#[]⟩, .string ⟨#[]⟩, .string ⟨#[]⟩, .string ⟨#[]⟩, .string ⟨#[]⟩, .string ⟨#[]⟩, .string ⟨#[]⟩, .string ⟨#[]⟩, .string ⟨#[]⟩, .string ⟨#[]⟩, .string ⟨#[]⟩, .string ⟨#[]⟩], .int .i64 80])) W6 := HP.out W6 zeroN 80 HE.out F6.out.b
      exact ⟨rfl, _, results_cell2 rfl rfl ld rfl, HF⟩
    | true =>
      have HC := Lib.hid (node_Check k p v (by have := HS.out.1; omega) (by have := HS.out.2.1; omega) K HS.out.2.2.1 (fun x hx => by have := HS.out.2.2.2 x hx; omega))
      have HF : Hid (fineN k p v K = fineD (k, p, v, K)) := Lib.hid rfl
      rw [HF.out] at HC
      have SZ : (Tryd.prog.info? 70).map (·.size) = some (nodeV k p v K).length := by rw [nodeV_size HS.out.2.2.1]; exact info_node
      have HON := nodeV_one k p v K
      have HSz := Lib.hid (nodeV_size (k := k) (p := p) (v := v) HS.out.2.2.1)
      have HEq : Hid (∀ w' (c : Nat), decN s = ((k, p, v, K), c) → Below w.heap.size w w' → P (.returned (.tuple #[.agg (nodeV k p v K).toArray, .int .i64 (c : Int)])) w') := Lib.hid (fun w' c e h => HP.out w' (k, p, v, K) c e h)
      go_wp2_with fail
      refine HEn.out.mono ?_
      rintro e w5 ⟨rfl, h5, h6⟩
      have N5 := Lib.hid (N4.out.read h5 h6)
      have B5 : Hid (Blk w5 nb 70 (nodeV k p v K).toArray) := Lib.hid N5.out.nd
      clear h5 h6
      have HE : Hid (decN s = if fineD (k, p, v, K) = true then ((k, p, v, K), 0) else (zeroN, 80)) := Lib.hid (by
        rw [HX.out]
        cases fineD (k, p, v, K) <;> simp)
      clear HX HF
      generalize nodeV k p v K = NV at *
      have RA := Blk.range0 B5.out
      cases hfd : fineD (k, p, v, K) with
      | true =>
        rw [hfd, if_pos rfl] at HE
        rw [hfd] at HC
        clear hfd
        go_wp2_with (first | ((with_reducible refine at_op 33 ?_); refine wpList_load_want (by rfl) 70 _ rfl nb 0 rfl _ _ RA Tryd.underlying70 rfl SZ ?_) | fail)
        refine (HC.out _).mono ?_
        rintro e w6 ⟨rfl, hb6⟩
        have N6 := Lib.hid (N5.out.b.nxt hb6)
        have B6 := Lib.hid (B5.out.below hb6 B5.out.lt)
        have F6 : Hid (Live w w6 [(rb, 70, #[.int .i64 0, .string ⟨#[]⟩, .string ⟨#[]⟩, .string ⟨#[]⟩, .string ⟨#[]⟩, .string ⟨#[]⟩, .string ⟨#[]⟩, .string ⟨#[]⟩, .string ⟨#[]⟩, .string ⟨#[]⟩, .string ⟨#[]⟩, .string ⟨#[]⟩, .string ⟨#[]⟩, .string ⟨#[]⟩, .string ⟨#[]⟩, .string ⟨#[]⟩, .string ⟨#[]⟩, .string ⟨#[]⟩, .string ⟨#[]⟩])]) := Lib.hid (Live.one (b1.out.2.1.nxt N6.out) b1.out.2.2 (b1.out.1.below N6.out b1.out.1.lt))
        have TH : w6.there rb 0 NV.toArray.size := by
          rw [show NV.toArray.size = 19 by rw [List.size_toArray]; exact HSz.out]
          exact F6.out.there 0 19 rfl (by decide)
        have SZ2 : (Tryd.prog.info? 70).map (·.size) = some NV.toArray.size := by rw [List.size_toArray]; exact SZ
        have RA6 := Blk.range0 B6.out
        clear RA hb6
        go_wp2_with (first | ((with_reducible refine at_op 38 ?_); refine wpList_load_want (by rfl) 70 _ rfl nb 0 rfl _ _ RA6 Tryd.underlying70 rfl SZ ?_) | ((with_reducible refine at_put 38 ?_); refine wpList_store_mid rfl 70 _ _ rfl rb 0 NV.toArray rfl rfl TH SZ2 HON ?_; have F7 := Live.hall F6 0 NV.toArray.toList rfl HSz.out.symm; generalize World.setCells _ rb 0 _ = W7 at F7 ⊢; have ld := run_loadVar_mid (P := Tryd.prog) W7 rb 0 70 NV.toArray.toList _ (Blk.range0 (F7.out.blk 0 rfl)) Tryd.underlying70 rfl SZ; clear TH SZ2))
        have HF := HEq.out W7 0 HE.out F7.out.b
        exact ⟨rfl, _, results_cell2 rfl rfl ld rfl, HF⟩
      | false =>
        rw [hfd, if_neg (by decide)] at HE
        rw [hfd] at HC
        clear hfd
        go_wp2_with (first | ((with_reducible refine at_op 33 ?_); refine wpList_load_want (by rfl) 70 _ rfl nb 0 rfl _ _ RA Tryd.underlying70 rfl SZ ?_) | fail)
        refine (HC.out _).mono ?_
        rintro e w6 ⟨rfl, hb6⟩
        have N6 := Lib.hid (N5.out.b.nxt hb6)
        clear RA hb6 HON
        have F5 : Hid (Live w w6 [(rb, 70, #[.int .i64 0, .string ⟨#[]⟩, .string ⟨#[]⟩, .string ⟨#[]⟩, .string ⟨#[]⟩, .string ⟨#[]⟩, .string ⟨#[]⟩, .string ⟨#[]⟩, .string ⟨#[]⟩, .string ⟨#[]⟩, .string ⟨#[]⟩, .string ⟨#[]⟩, .string ⟨#[]⟩, .string ⟨#[]⟩, .string ⟨#[]⟩, .string ⟨#[]⟩, .string ⟨#[]⟩, .string ⟨#[]⟩, .string ⟨#[]⟩])]) := Lib.hid (Live.one (b1.out.2.1.nxt N6.out) b1.out.2.2 (b1.out.1.below N6.out b1.out.1.lt))
        have TH := F5.out.there 0 19 rfl (by decide)
        have HON : (#[.int .i64 0, .string ⟨#[]⟩, .string ⟨#[]⟩, .string ⟨#[]⟩, .string ⟨#[]⟩, .string ⟨#[]⟩, .string ⟨#[]⟩, .string ⟨#[]⟩, .string ⟨#[]⟩, .string ⟨#[]⟩, .string ⟨#[]⟩, .string ⟨#[]⟩, .string ⟨#[]⟩, .string ⟨#[]⟩, .string ⟨#[]⟩, .string ⟨#[]⟩, .string ⟨#[]⟩, .string ⟨#[]⟩, .string ⟨#[]⟩] : Array Value).all (·.oneCell') = true := by rw [zeros_eq]; exact nodeV_one _ _ _ _
        go_wp2_with (first | ((with_reducible refine at_op 37 ?_); refine wpList_build_eq rfl 70 _ rfl #[.int .i64 0, .string ⟨#[]⟩, .string ⟨#[]⟩, .string ⟨#[]⟩, .string ⟨#[]⟩, .string ⟨#[]⟩, .string ⟨#[]⟩, .string ⟨#[]⟩, .string ⟨#[]⟩, .string ⟨#[]⟩, .string ⟨#[]⟩, .string ⟨#[]⟩, .string ⟨#[]⟩, .string ⟨#[]⟩, .string ⟨#[]⟩, .string ⟨#[]⟩, .string ⟨#[]⟩, .string ⟨#[]⟩, .string ⟨#[]⟩] (by simp only [List.map_toArray, List.map_cons, List.map_nil]; kernel_rfl) ?_) | ((with_reducible refine at_put 37 ?_); refine wpList_store_mid rfl 70 _ _ rfl rb 0 #[.int .i64 0, .string ⟨#[]⟩, .string ⟨#[]⟩, .string ⟨#[]⟩, .string ⟨#[]⟩, .string ⟨#[]⟩, .string ⟨#[]⟩, .string ⟨#[]⟩, .string ⟨#[]⟩, .string ⟨#[]⟩, .string ⟨#[]⟩, .string ⟨#[]⟩, .string ⟨#[]⟩, .string ⟨#[]⟩, .string ⟨#[]⟩, .string ⟨#[]⟩, .string ⟨#[]⟩, .string ⟨#[]⟩, .string ⟨#[]⟩] rfl rfl TH info_node HON ?_; have F6 := Live.hall F5 0 (#[.int .i64 0, .string ⟨#[]⟩, .string ⟨#[]⟩, .string ⟨#[]⟩, .string ⟨#[]⟩, .string ⟨#[]⟩, .string ⟨#[]⟩, .string ⟨#[]⟩, .string ⟨#[]⟩, .string ⟨#[]⟩, .string ⟨#[]⟩, .string ⟨#[]⟩, .string ⟨#[]⟩, .string ⟨#[]⟩, .string ⟨#[]⟩, .string ⟨#[]⟩, .string ⟨#[]⟩, .string ⟨#[]⟩, .string ⟨#[]⟩] : Array Value).toList rfl rfl; generalize World.setCells _ rb 0 _ = W6 at F6 ⊢; have ld : (loadVar 70 ⟨rb, 0, none⟩).run Tryd.prog W6 = .ok (.agg #[.int .i64 0, .string ⟨#[]⟩, .string ⟨#[]⟩, .string ⟨#[]⟩, .string ⟨#[]⟩, .string ⟨#[]⟩, .string ⟨#[]⟩, .string ⟨#[]⟩, .string ⟨#[]⟩, .string ⟨#[]⟩, .string ⟨#[]⟩, .string ⟨#[]⟩, .string ⟨#[]⟩, .string ⟨#[]⟩, .string ⟨#[]⟩, .string ⟨#[]⟩, .string ⟨#[]⟩, .string ⟨#[]⟩, .string ⟨#[]⟩]) W6 := run_loadVar_mid (P := Tryd.prog) W6 rb 0 70 (#[.int .i64 0, .string ⟨#[]⟩, .string ⟨#[]⟩, .string ⟨#[]⟩, .string ⟨#[]⟩, .string ⟨#[]⟩, .string ⟨#[]⟩, .string ⟨#[]⟩, .string ⟨#[]⟩, .string ⟨#[]⟩, .string ⟨#[]⟩, .string ⟨#[]⟩, .string ⟨#[]⟩, .string ⟨#[]⟩, .string ⟨#[]⟩, .string ⟨#[]⟩, .string ⟨#[]⟩, .string ⟨#[]⟩, .string ⟨#[]⟩] : Array Value).toList _ (Blk.range0 (F6.out.blk 0 rfl)) Tryd.underlying70 rfl info_node; clear TH))
        have HF : P (.returned (.tuple #[.agg #[.int .i64 0, .string ⟨#[]⟩, .string ⟨#[]⟩, .string ⟨#[]⟩, .string ⟨#[]⟩, .string ⟨#[]⟩, .string ⟨#[]⟩, .string ⟨#[]⟩, .string ⟨#[]⟩, .string ⟨#[]⟩, .string ⟨#[]⟩, .string ⟨#[]⟩, .string ⟨#[]⟩, .string ⟨#[]⟩, .string ⟨#[]⟩, .string ⟨#[]⟩, .string ⟨#[]⟩, .string ⟨#[]⟩, .string ⟨#[]⟩], .int .i64 80])) W6 := HP.out W6 zeroN 80 HE.out F6.out.b
        exact ⟨rfl, _, results_cell2 rfl rfl ld rfl, HF⟩
  · have HE : Hid (decN s = (zeroN, 80)) := Lib.hid (by rw [HX.out, if_pos (.inl he)])
    have hen : ((en : Int) != 0) = true := by simp; exact he
    clear HX he
    go_wp2_with fail
    refine HEn.out.mono ?_
    rintro e w5 ⟨rfl, h5, h6⟩
    have N5 := Lib.hid (N4.out.read h5 h6)
    clear h5 h6
    have F5 : Hid (Live w w5 [(rb, 70, #[.int .i64 0, .string ⟨#[]⟩, .string ⟨#[]⟩, .string ⟨#[]⟩, .string ⟨#[]⟩, .string ⟨#[]⟩, .string ⟨#[]⟩, .string ⟨#[]⟩, .string ⟨#[]⟩, .string ⟨#[]⟩, .string ⟨#[]⟩, .string ⟨#[]⟩, .string ⟨#[]⟩, .string ⟨#[]⟩, .string ⟨#[]⟩, .string ⟨#[]⟩, .string ⟨#[]⟩, .string ⟨#[]⟩, .string ⟨#[]⟩])]) := Lib.hid (Live.one (b1.out.2.1.nxt N5.out.b) b1.out.2.2 (b1.out.1.below N5.out.b b1.out.1.lt))
    have TH := F5.out.there 0 19 rfl (by decide)
    have HON : (#[.int .i64 0, .string ⟨#[]⟩, .string ⟨#[]⟩, .string ⟨#[]⟩, .string ⟨#[]⟩, .string ⟨#[]⟩, .string ⟨#[]⟩, .string ⟨#[]⟩, .string ⟨#[]⟩, .string ⟨#[]⟩, .string ⟨#[]⟩, .string ⟨#[]⟩, .string ⟨#[]⟩, .string ⟨#[]⟩, .string ⟨#[]⟩, .string ⟨#[]⟩, .string ⟨#[]⟩, .string ⟨#[]⟩, .string ⟨#[]⟩] : Array Value).all (·.oneCell') = true := by rw [zeros_eq]; exact nodeV_one _ _ _ _
    go_wp2_with (first | ((with_reducible refine at_op 37 ?_); refine wpList_build_eq rfl 70 _ rfl #[.int .i64 0, .string ⟨#[]⟩, .string ⟨#[]⟩, .string ⟨#[]⟩, .string ⟨#[]⟩, .string ⟨#[]⟩, .string ⟨#[]⟩, .string ⟨#[]⟩, .string ⟨#[]⟩, .string ⟨#[]⟩, .string ⟨#[]⟩, .string ⟨#[]⟩, .string ⟨#[]⟩, .string ⟨#[]⟩, .string ⟨#[]⟩, .string ⟨#[]⟩, .string ⟨#[]⟩, .string ⟨#[]⟩, .string ⟨#[]⟩] (by simp only [List.map_toArray, List.map_cons, List.map_nil]; kernel_rfl) ?_) | ((with_reducible refine at_put 37 ?_); refine wpList_store_mid rfl 70 _ _ rfl rb 0 #[.int .i64 0, .string ⟨#[]⟩, .string ⟨#[]⟩, .string ⟨#[]⟩, .string ⟨#[]⟩, .string ⟨#[]⟩, .string ⟨#[]⟩, .string ⟨#[]⟩, .string ⟨#[]⟩, .string ⟨#[]⟩, .string ⟨#[]⟩, .string ⟨#[]⟩, .string ⟨#[]⟩, .string ⟨#[]⟩, .string ⟨#[]⟩, .string ⟨#[]⟩, .string ⟨#[]⟩, .string ⟨#[]⟩, .string ⟨#[]⟩] rfl rfl TH info_node HON ?_; have F6 := Live.hall F5 0 (#[.int .i64 0, .string ⟨#[]⟩, .string ⟨#[]⟩, .string ⟨#[]⟩, .string ⟨#[]⟩, .string ⟨#[]⟩, .string ⟨#[]⟩, .string ⟨#[]⟩, .string ⟨#[]⟩, .string ⟨#[]⟩, .string ⟨#[]⟩, .string ⟨#[]⟩, .string ⟨#[]⟩, .string ⟨#[]⟩, .string ⟨#[]⟩, .string ⟨#[]⟩, .string ⟨#[]⟩, .string ⟨#[]⟩, .string ⟨#[]⟩] : Array Value).toList rfl rfl; generalize World.setCells _ rb 0 _ = W6 at F6 ⊢; have ld : (loadVar 70 ⟨rb, 0, none⟩).run Tryd.prog W6 = .ok (.agg #[.int .i64 0, .string ⟨#[]⟩, .string ⟨#[]⟩, .string ⟨#[]⟩, .string ⟨#[]⟩, .string ⟨#[]⟩, .string ⟨#[]⟩, .string ⟨#[]⟩, .string ⟨#[]⟩, .string ⟨#[]⟩, .string ⟨#[]⟩, .string ⟨#[]⟩, .string ⟨#[]⟩, .string ⟨#[]⟩, .string ⟨#[]⟩, .string ⟨#[]⟩, .string ⟨#[]⟩, .string ⟨#[]⟩, .string ⟨#[]⟩]) W6 := run_loadVar_mid (P := Tryd.prog) W6 rb 0 70 (#[.int .i64 0, .string ⟨#[]⟩, .string ⟨#[]⟩, .string ⟨#[]⟩, .string ⟨#[]⟩, .string ⟨#[]⟩, .string ⟨#[]⟩, .string ⟨#[]⟩, .string ⟨#[]⟩, .string ⟨#[]⟩, .string ⟨#[]⟩, .string ⟨#[]⟩, .string ⟨#[]⟩, .string ⟨#[]⟩, .string ⟨#[]⟩, .string ⟨#[]⟩, .string ⟨#[]⟩, .string ⟨#[]⟩, .string ⟨#[]⟩] : Array Value).toList _ (Blk.range0 (F6.out.blk 0 rfl)) Tryd.underlying70 rfl info_node; clear TH))
    have HF : P (.returned (.tuple #[.agg #[.int .i64 0, .string ⟨#[]⟩, .string ⟨#[]⟩, .string ⟨#[]⟩, .string ⟨#[]⟩, .string ⟨#[]⟩, .string ⟨#[]⟩, .string ⟨#[]⟩, .string ⟨#[]⟩, .string ⟨#[]⟩, .string ⟨#[]⟩, .string ⟨#[]⟩, .string ⟨#[]⟩, .string ⟨#[]⟩, .string ⟨#[]⟩, .string ⟨#[]⟩, .string ⟨#[]⟩, .string ⟨#[]⟩, .string ⟨#[]⟩], .int .i64 80])) W6 := HP.out W6 zeroN 80 HE.out F6.out.b
    exact ⟨rfl, _, results_cell2 rfl rfl ld rfl, HF⟩
end Go.Proofs.YtcjafcbekegmlaaDoor

namespace Go.Proofs.YtcjafcbekegmlaaDoor
namespace Trie
open Nib
inductive T where
  | nil
  | leaf (p v : List UInt8)
  | ext (p : List UInt8) (t : T)
  | branch (v : List UInt8) (kids : Fin 16 → T)
def isNil : T → Bool
  | .nil => true
  | _ => false
def isBranch : T → Bool
  | .branch _ _ => true
  | _ => false
def ix (b : UInt8) : Fin 16 := ⟨b.toNat % 16, Nat.mod_lt _ (by omega)⟩
def setKid (kids : Fin 16 → T) (b : UInt8) (t : T) : Fin 16 → T := fun i => if i = ix b then t else kids i
def noKids : Fin 16 → T := fun _ => .nil
def look : T → List UInt8 → List UInt8
  | .nil, _ => []
  | .leaf p v, q => if q = p then v else []
  | .ext p t, q => if common p q = p.length then look t (q.drop p.length) else []
  | .branch v kids, q => match q with
    | [] => v
    | b :: r => look (kids (ix b)) r
def joined (path : List UInt8) (t : T) : T :=
  if path = [] then t else match t with
    | .leaf p v => .leaf (path ++ p) v
    | .ext p s => .ext (path ++ p) s
    | t => .ext path t
def oneOwn (old : List UInt8) (w : List UInt8) : List UInt8 := match old with
  | [] => w
  | _ :: _ => []
def oneKids (old : List UInt8) (f : List UInt8 → T) : Fin 16 → T := match old with
  | [] => noKids
  | b :: r => setKid noKids b (f r)
def partedG (old : List UInt8) (f : List UInt8 → T) (w path v : List UInt8) : T := match path with
  | [] => .branch v (oneKids old f)
  | b :: r => .branch (oneOwn old w) (setKid (oneKids old f) b (.leaf r v))
def parted (t : T) (c : Nat) (path v : List UInt8) : T := match t with
  | .leaf p w => partedG (p.drop c) (fun r => .leaf r w) w path v
  | .ext p s => partedG (p.drop c) (fun r => joined r s) [] path v
  | t => t
def put : T → List UInt8 → List UInt8 → T
  | .nil, q, v => .leaf q v
  | .branch w kids, q, v => match q with
    | [] => .branch v kids
    | b :: r => .branch w (setKid kids b (put (kids (ix b)) r v))
  | .ext p t, q, v => if common p q = p.length then joined p (put t (q.drop (common p q)) v) else joined (q.take (common p q)) (parted (.ext p t) (common p q) (q.drop (common p q)) v)
  | .leaf p w, q, v => if common p q = p.length ∧ common p q = q.length then .leaf q v else joined (q.take (common p q)) (parted (.leaf p w) (common p q) (q.drop (common p q)) v)
def many (kids : Fin 16 → T) : Nat := ((List.finRange 16).filter fun i => !isNil (kids i)).length
def wf : T → Prop
  | .nil => True
  | .leaf p v => fit p = true ∧ v ≠ []
  | .ext p t => fit p = true ∧ p ≠ [] ∧ isBranch t = true ∧ wf t
  | .branch v kids => (∀ i, wf (kids i)) ∧ 2 ≤ many kids + (if v = [] then 0 else 1)
theorem fit_append {a b : List UInt8} : fit (a ++ b) = true ↔ fit a = true ∧ fit b = true := by
  unfold fit; rw [List.all_append, Bool.and_eq_true]
theorem fit_cons' {a : UInt8} {r : List UInt8} : fit (a :: r) = true ↔ a ≤ 15 ∧ fit r = true := by
  unfold fit; simp
theorem fit_drop {a : List UInt8} (n : Nat) (h : fit a = true) : fit (a.drop n) = true := by
  have : fit (a.take n ++ a.drop n) = true := by rw [List.take_append_drop]; exact h
  exact (fit_append.1 this).2
theorem fit_take {a : List UInt8} (n : Nat) (h : fit a = true) : fit (a.take n) = true := by
  have : fit (a.take n ++ a.drop n) = true := by rw [List.take_append_drop]; exact h
  exact (fit_append.1 this).1
theorem ix_of (i : Fin 16) : ix (UInt8.ofNat i.val) = i ∧ UInt8.ofNat i.val ≤ 15 := by
  have := i.isLt
  constructor
  · apply Fin.ext; simp [ix]
  · rw [UInt8.le_iff_toNat_le]; simp; omega
theorem ix_inj {a b : UInt8} (ha : a ≤ 15) (hb : b ≤ 15) (h : ix a = ix b) : a = b := by
  rw [UInt8.le_iff_toNat_le] at ha hb
  simp at ha hb
  have := congrArg Fin.val h
  simp [ix] at this
  exact UInt8.toNat_inj.1 (by omega)
theorem prefix_common {p q : List UInt8} : common p q = p.length ↔ q = p ++ q.drop p.length := by
  constructor
  · intro h
    have h1 := (common_take p q p.length).1 (by omega)
    conv => lhs; rw [← List.take_append_drop p.length q, ← h1.2.2]
    simp
  · intro h
    have hcl := common_le p q
    have : p.length ≤ common p q := by
      rw [common_take]
      refine ⟨Nat.le_refl _, ?_, ?_⟩
      · rw [h]; simp
      · rw [h]; simp
    omega
theorem common_self_append (p r : List UInt8) : common p (p ++ r) = p.length := prefix_common.2 (by simp)
theorem many_two {kids : Fin 16 → T} {v : List UInt8} (h : 2 ≤ many kids + (if v = [] then 0 else 1)) (b : UInt8) : v ≠ [] ∨ ∃ i, i ≠ ix b ∧ isNil (kids i) = false := by
  by_cases hv : v = []
  · right
    rw [if_pos hv] at h
    unfold many at h
    have hn : ((List.finRange 16).filter fun i => !isNil (kids i)).Nodup := (List.nodup_finRange 16).sublist List.filter_sublist
    generalize hl : ((List.finRange 16).filter fun i => !isNil (kids i)) = l at *
    have hmem : ∀ i ∈ l, isNil (kids i) = false := by
      intro i hi
      rw [← hl, List.mem_filter] at hi
      simpa using hi.2
    match l, h, hn with
    | x :: y :: l, _, hn =>
      by_cases hx : x = ix b
      · refine ⟨y, fun e => ?_, hmem y (by simp)⟩
        rw [List.nodup_cons] at hn
        exact hn.1 (by rw [hx, ← e]; simp)
      · exact ⟨x, hx, hmem x (by simp)⟩
  · exact .inl hv
theorem look_some (t : T) : wf t → isNil t = false → ∃ q, fit q = true ∧ look t q ≠ [] := by
  induction t with
  | nil => intro _ h; simp [isNil] at h
  | leaf p v => intro h _; exact ⟨p, h.1, by simp [look]; exact h.2⟩
  | ext p t ih =>
    intro h _
    obtain ⟨h1, h2, h3, h4⟩ := h
    obtain ⟨q, g1, g2⟩ := ih h4 (by cases t <;> simp_all [isBranch, isNil])
    refine ⟨p ++ q, fit_append.2 ⟨h1, g1⟩, ?_⟩
    simp only [look, common_self_append, if_pos]
    simpa using g2
  | branch v kids ih =>
    intro h _
    rcases many_two h.2 0 with hv | ⟨i, _, hi⟩
    · exact ⟨[], rfl, hv⟩
    · obtain ⟨q, g1, g2⟩ := ih i (h.1 i) hi
      obtain ⟨e1, e2⟩ := ix_of i
      exact ⟨UInt8.ofNat i.val :: q, fit_cons'.2 ⟨e2, g1⟩, by simp only [look, e1]; exact g2⟩
theorem branch_of {t : T} (h : isBranch t = true) : ∃ v kids, t = .branch v kids := by
  cases t with
  | branch v kids => exact ⟨v, kids, rfl⟩
  | nil => simp [isBranch] at h
  | leaf _ _ => simp [isBranch] at h
  | ext _ _ => simp [isBranch] at h
theorem look_ext_some {p : List UInt8} {t : T} {q : List UInt8} (h : look (.ext p t) q ≠ []) : q = p ++ q.drop p.length ∧ look t (q.drop p.length) ≠ [] := by
  simp only [look] at h
  split at h
  · rename_i hc; exact ⟨prefix_common.1 hc, h⟩
  · exact absurd rfl h
theorem look_ext (p : List UInt8) (t : T) (r : List UInt8) : look (.ext p t) (p ++ r) = look t r := by
  simp [look, common_self_append]
end Trie
end Go.Proofs.YtcjafcbekegmlaaDoor
