import Derived.Test.YtefcmigbdfeaiaaDoorK23
import Derived.Deep.DeepCutAuto
import Derived.Test.YtefcmigbdfeaiaaDoorK07
import Derived.Test.YtefcmigbdfeaiaaDoorK10
import Derived.Test.YtefcmigbdfeaiaaDoorK12
set_option linter.unusedSimpArgs false
set_option linter.unusedVariables false
namespace Go.Proofs.YtefcmigbdfeaiaaDoor
set_option linter.unusedVariables false
open Go.RowKit Go.Instr
attribute [local go_sem] ba_get ByteArray.mk_append_mk
def DecNEnd (w : World) (r : Nd × Nat) (e : Ending) (w' : World) : Prop := e = .returned (.tuple #[.agg (nodeV r.1.1 r.1.2.1 r.1.2.2.1 r.1.2.2.2).toArray, .int .i64 (r.2 : Int)]) ∧ Below w.heap.size w w'
theorem kidsR_short (set : Nat) : ∀ n s, ∀ x ∈ (kidsR set n s).1, x.length ≤ 32
  | 0, s, x, h => by simp [kidsR] at h
  | n + 1, s, x, h => by
    simp only [kidsR, List.mem_cons] at h
    rcases h with rfl | h
    · unfold kidR
      split
      · rcases bytesS_len s 32 with h | h
        · rw [h]; exact Nat.zero_le _
        · omega
      · exact Nat.zero_le _
    · exact kidsR_short set n _ x h
theorem zeroK_short : ∀ x ∈ zeroK, x.length ≤ 32 := by intro x h; rw [List.eq_of_mem_replicate h]; exact Nat.zero_le _
theorem readN_short (most : Nat) (hm : most ≤ 1000) (s : List UInt8) : (readN most s).1.2.1.length ≤ 2000 ∧ (readN most s).1.2.2.1.length ≤ 32 ∧ (readN most s).1.2.2.2.length = 16 ∧ ∀ x ∈ (readN most s).1.2.2.2, x.length ≤ 32 := by
  unfold readN
  split
  · refine ⟨Nat.zero_le _, ?_, ?_, ?_⟩
    · unfold brR
      split
      · exact Nat.zero_le _
      · exact txtS_most _ _
    · unfold brR
      split
      · rfl
      · exact kidsR_length _ _ _
    · unfold brR
      split
      · exact zeroK_short
      · exact kidsR_short _ _ _
  · unfold otR
    split
    · refine ⟨?_, txtS_most _ _, rfl, zeroK_short⟩
      have h1 := Nib.unpack_length (txtS (bytesS (s, 0) 1).2 most).1
      have h2 := txtS_most (bytesS (s, 0) 1).2 most
      show (Nib.unpack _).1.length ≤ 2000
      omega
    · refine ⟨?_, Nat.zero_le _, rfl, ?_⟩
      · have h1 := Nib.unpack_length (txtS (bytesS (s, 0) 1).2 most).1
        have h2 := txtS_most (bytesS (s, 0) 1).2 most
        show (Nib.unpack _).1.length ≤ 2000
        omega
      · intro x hx
        rcases List.mem_cons.1 hx with rfl | hx
        · rcases bytesS_len (txtS (bytesS (s, 0) 1).2 most).2 32 with h | h
          · rw [h]; exact Nat.zero_le _
          · omega
        · rw [List.eq_of_mem_replicate hx]; exact Nat.zero_le _
theorem readN_3 (most : Nat) (s : List UInt8) (h : kindR s = 3) : readN most s = ((3, [], (brR (bytesS (s, 0) 1).2).1.1, (brR (bytesS (s, 0) 1).2).1.2), (brR (bytesS (s, 0) 1).2).2, true) := by unfold readN; rw [if_pos h]
theorem readN_o (most : Nat) (s : List UInt8) (h : kindR s ≠ 3) : readN most s = ((kindR s, (otR most (kindR s) (bytesS (s, 0) 1).2).1), (otR most (kindR s) (bytesS (s, 0) 1).2).2) := by unfold readN; rw [if_neg h]
theorem decN_eq (s : List UInt8) : decN s = if endS (readN 16 s).2.1 ≠ 0 ∨ (readN 16 s).2.2 = false ∨ fineD (readN 16 s).1 = false then (zeroN, 80) else ((readN 16 s).1, 0) := rfl
theorem Live.one {w W : World} {g t : Nat} {cs : Array Value} (hb : Below w.heap.size w W) (hg : w.heap.size ≤ g) (h : Blk W g t cs) : Live w W [(g, t, cs)] :=
  ⟨hb, fun x hx => by rw [List.mem_singleton] at hx; subst hx; exact ⟨hg, h⟩, List.pairwise_singleton _ _⟩
theorem nodeV_one (k : Nat) (p v : List UInt8) (K : List (List UInt8)) : (nodeV k p v K).toArray.all (·.oneCell') = true := by
  refine all_oneCell_toArray fun u hu => ?_
  unfold nodeV at hu
  simp only [List.mem_cons] at hu
  rcases hu with rfl | rfl | rfl | hu
  · rfl
  · rfl
  · rfl
  · exact strv_one _ _ hu
theorem Blk.range0 {w : World} {g t : Nat} {cs : List Value} (h : Blk w g t cs.toArray) : w.rangeAt g 0 cs := fun j u hu => by rw [Nat.zero_add]; exact (h.cell j).trans (by simpa using hu)
theorem results_cell2 {P : Program} {fn : Func} {tmps : Array Value} {w : World} {a b : Tmp} {t : TypeId} {p : Addr} {v u : Value} (hr : fn.results = #[.cell a t, .tmp b]) (ha : tmps.getD a undef = .pointer (some p)) (hv : (loadVar t p).run P w = .ok v w) (hb : tmps.getD b undef = u) :
    (results fn tmps).run P w = .ok (.tuple #[v, u]) w := by
  unfold results
  rw [hr]
  rw [Array.getD_eq_getD_getElem?] at ha hb
  simp [Sem.run_bind, ha, hv, hb, asAddr]
theorem zeros_eq : (#[.int .i64 0, .string ⟨#[]⟩, .string ⟨#[]⟩, .string ⟨#[]⟩, .string ⟨#[]⟩, .string ⟨#[]⟩, .string ⟨#[]⟩, .string ⟨#[]⟩, .string ⟨#[]⟩, .string ⟨#[]⟩, .string ⟨#[]⟩, .string ⟨#[]⟩, .string ⟨#[]⟩, .string ⟨#[]⟩, .string ⟨#[]⟩, .string ⟨#[]⟩, .string ⟨#[]⟩, .string ⟨#[]⟩, .string ⟨#[]⟩] : Array Value) = (nodeV 0 [] [] zeroK).toArray := rfl
set_option maxRecDepth 100000 in
set_option maxHeartbeats 2000000 in
theorem node_Decode (w : World) (s : List UInt8) (hs : s.length ≤ 1000000) :
    Calls Tryd.prog 95 #[.string ⟨s.toArray⟩] w (DecNEnd w (decN s)) := by
  have HP : Hid (∀ w' n (c : Nat), decN s = (n, c) → Below w.heap.size w w' → DecNEnd w (decN s) (.returned (.tuple #[.agg (nodeV n.1 n.2.1 n.2.2.1 n.2.2.2).toArray, .int .i64 (c : Int)])) w') := Lib.hid (fun w' n c e h => by rw [e]; exact ⟨rfl, h⟩)
  generalize DecNEnd w (decN s) = P at HP ⊢
  have HX := Lib.hid (decN_eq s)
  have HS := Lib.hid (readN_short 16 (by omega) s)
  have H3 := Lib.hid (readN_3 16 s)
  have HO := Lib.hid (readN_o 16 s)
  have HL := Lib.hid hs
  clear hs
  go_enter Tryd.func95, Tryd.ntmps95
  go_upto_region 1 with fail
  obtain ⟨rb, hrb⟩ : ∃ rb, w.heap.size = rb := ⟨_, rfl⟩
  have b1 : Hid (Blk (w.alloc (.cells #[.int .i64 0, .string ⟨#[]⟩, .string ⟨#[]⟩, .string ⟨#[]⟩, .string ⟨#[]⟩, .string ⟨#[]⟩, .string ⟨#[]⟩, .string ⟨#[]⟩, .string ⟨#[]⟩, .string ⟨#[]⟩, .string ⟨#[]⟩, .string ⟨#[]⟩, .string ⟨#[]⟩, .string ⟨#[]⟩, .string ⟨#[]⟩, .string ⟨#[]⟩, .string ⟨#[]⟩, .string ⟨#[]⟩, .string ⟨#[]⟩] 91)) rb 91 #[.int .i64 0, .string ⟨#[]⟩, .string ⟨#[]⟩, .string ⟨#[]⟩, .string ⟨#[]⟩, .string ⟨#[]⟩, .string ⟨#[]⟩, .string ⟨#[]⟩, .string ⟨#[]⟩, .string ⟨#[]⟩, .string ⟨#[]⟩, .string ⟨#[]⟩, .string ⟨#[]⟩, .string ⟨#[]⟩, .string ⟨#[]⟩, .string ⟨#[]⟩, .string ⟨#[]⟩, .string ⟨#[]⟩, .string ⟨#[]⟩] ∧ Below w.heap.size w (w.alloc (.cells #[.int .i64 0, .string ⟨#[]⟩, .string ⟨#[]⟩, .string ⟨#[]⟩, .string ⟨#[]⟩, .string ⟨#[]⟩, .string ⟨#[]⟩, .string ⟨#[]⟩, .string ⟨#[]⟩, .string ⟨#[]⟩, .string ⟨#[]⟩, .string ⟨#[]⟩, .string ⟨#[]⟩, .string ⟨#[]⟩, .string ⟨#[]⟩, .string ⟨#[]⟩, .string ⟨#[]⟩, .string ⟨#[]⟩, .string ⟨#[]⟩] 91)) ∧ w.heap.size ≤ rb) := Lib.hid (by subst hrb; exact ⟨Blk.new w _ _, by go_grown, Nat.le_refl _⟩)
  rw [hrb]
  generalize w.alloc (.cells #[.int .i64 0, .string ⟨#[]⟩, .string ⟨#[]⟩, .string ⟨#[]⟩, .string ⟨#[]⟩, .string ⟨#[]⟩, .string ⟨#[]⟩, .string ⟨#[]⟩, .string ⟨#[]⟩, .string ⟨#[]⟩, .string ⟨#[]⟩, .string ⟨#[]⟩, .string ⟨#[]⟩, .string ⟨#[]⟩, .string ⟨#[]⟩, .string ⟨#[]⟩, .string ⟨#[]⟩, .string ⟨#[]⟩, .string ⟨#[]⟩] 91) = W1 at b1 ⊢
  clear hrb
  go_upto_region 3 with (go_at_call 100; refine (code_Read s _).mono ?_; rintro e w2 ⟨rfl, rfl⟩)
  have N0 : Hid (RdNd W1 ((W1.alloc (.cells #[.string ⟨s.toArray⟩, .int .i64 0, .int .i64 0] 167)).alloc (.cells #[.int .i64 0, .string ⟨#[]⟩, .string ⟨#[]⟩, .string ⟨#[]⟩, .string ⟨#[]⟩, .string ⟨#[]⟩, .string ⟨#[]⟩, .string ⟨#[]⟩, .string ⟨#[]⟩, .string ⟨#[]⟩, .string ⟨#[]⟩, .string ⟨#[]⟩, .string ⟨#[]⟩, .string ⟨#[]⟩, .string ⟨#[]⟩, .string ⟨#[]⟩, .string ⟨#[]⟩, .string ⟨#[]⟩, .string ⟨#[]⟩] 91)) W1.heap.size (W1.heap.size + 1) (s, 0) zeroN) := Lib.hid ⟨⟨s, 0, (Blk.new W1 _ _).alloc _, Nat.zero_le _, HL.out, rfl⟩, by have := Blk.new (W1.alloc (.cells #[.string ⟨s.toArray⟩, .int .i64 0, .int .i64 0] 167)) 91 #[.int .i64 0, .string ⟨#[]⟩, .string ⟨#[]⟩, .string ⟨#[]⟩, .string ⟨#[]⟩, .string ⟨#[]⟩, .string ⟨#[]⟩, .string ⟨#[]⟩, .string ⟨#[]⟩, .string ⟨#[]⟩, .string ⟨#[]⟩, .string ⟨#[]⟩, .string ⟨#[]⟩, .string ⟨#[]⟩, .string ⟨#[]⟩, .string ⟨#[]⟩, .string ⟨#[]⟩, .string ⟨#[]⟩, .string ⟨#[]⟩]; rw [World.size_alloc] at this; exact this, by omega, Nat.le_refl _, by omega, by go_grown⟩
  generalize ((W1.alloc (.cells #[.string ⟨s.toArray⟩, .int .i64 0, .int .i64 0] 167)).alloc (.cells #[.int .i64 0, .string ⟨#[]⟩, .string ⟨#[]⟩, .string ⟨#[]⟩, .string ⟨#[]⟩, .string ⟨#[]⟩, .string ⟨#[]⟩, .string ⟨#[]⟩, .string ⟨#[]⟩, .string ⟨#[]⟩, .string ⟨#[]⟩, .string ⟨#[]⟩, .string ⟨#[]⟩, .string ⟨#[]⟩, .string ⟨#[]⟩, .string ⟨#[]⟩, .string ⟨#[]⟩, .string ⟨#[]⟩, .string ⟨#[]⟩] 91)) = W3 at N0 ⊢
  generalize W1.heap.size + 1 = nb at N0 ⊢
  generalize W1.heap.size = g at N0 ⊢
  have HBy := Lib.hid (code_RBytes W3 g (s, 0) N0.out.rd 1 (by omega))
  have hkd : (s = [] ∧ (bytesS (s, 0) 1).1 = []) ∨ ∃ c r, s = c :: r ∧ (bytesS (s, 0) 1).1 = [c] := by
    cases s with
    | nil => exact .inl ⟨rfl, rfl⟩
    | cons c r => exact .inr ⟨c, r, rfl, by unfold bytesS; simp⟩
  generalize bytesS (s, 0) 1 = br at *
  obtain ⟨kd, s1⟩ := br
  simp only at HBy hkd H3 HO
  have HKD := Lib.hid hkd
  clear hkd
  go_wp2_with fail
  refine HBy.out.mono ?_
  rintro e w2 ⟨rfl, h1, h2⟩
  have N1 : Hid (RdNd W1 w2 g nb s1 zeroN) := Lib.hid (N0.out.read h1 h2)
  clear h1 h2 HBy N0
  go_upto_if 13 with fail
  go_cut [] (fun wx => RdNd W1 wx g nb s1 (kindR s, [], [], zeroK))
  case first =>
    rcases HKD.out with ⟨e1, e2⟩ | ⟨c, r, e1, e2⟩
    · subst e2
      have hkr : kindR s = 0 := by rw [e1]; rfl
      have HF : Hid (RdNd W1 w2 g nb s1 (kindR s, [], [], zeroK)) := Lib.hid (by rw [hkr]; exact N1.out)
      clear e1 hkr HKD
      go_wp2_with fail
      go_meet
      exact HF.out
    · subst e2
      have hkr : kindR s = c.toNat := by rw [e1]; rfl
      have HR := Lib.hid hkr
      have hw : wrap64 (c.toNat : Int) = (c.toNat : Int) := IntWalk.wrap64_in _ (by have := c.toNat_lt; constructor <;> omega)
      have k0 : w2.cell? ⟨nb, 0, none⟩ = some (.int .i64 0) := N1.out.at0.1
      have f0 : w2.frozen? ⟨nb, 0, none⟩ = false := N1.out.nd.frozen 0
      clear e1 hkr HKD
      go_wp2_with fail
      go_meet
      rw [HR.out]
      exact N1.out.write 0 _ rfl
  case rest =>
  have N2 := Lib.hid hcut
  clear hcut N1 HKD
  generalize hkk : kindR s = kk at *
  clear hkk
  have k0 : wc.cell? ⟨nb, 0, none⟩ = some (.int .i64 (kk : Int)) := N2.out.at0.1
  go_upto_if 20 with fail
  go_cut [7] (fun s7 wx => ∃ n st b, s7 = .bool b ∧ readN 16 s = (n, st, b) ∧ RdNd W1 wx g nb st n)
  case first =>
    by_cases hk : kk = 3
    · subst hk
      have e := H3.out rfl
      have HB := Lib.hid (node_branch W1 wc g nb s1 N2.out)
      generalize brR s1 = B at e HB
      obtain ⟨⟨nv, nK⟩, st⟩ := B
      simp only at e HB
      have HE := Lib.hid e
      clear e k0 H3 HO N2 HX HS
      go_wp2_with fail
      refine HB.out.mono ?_
      rintro e w4 ⟨rfl, n4⟩
      have N4 := Lib.hid n4
      clear n4
      go_wp2_with fail
      go_meet
      exact ⟨_, _, _, rfl, HE.out, N4.out⟩
    · have e := HO.out hk
      have hkI : ((kk : Int) == 3) = false := by simp; omega
      have HB := Lib.hid (node_other W1 wc g nb kk s1 N2.out)
      generalize otR 16 kk s1 = B at e HB
      obtain ⟨⟨np, nv, nK⟩, st, fb⟩ := B
      simp only at e HB
      have HE := Lib.hid e
      clear e hk k0 H3 HO N2 HX HS
      go_wp2_with fail
      refine HB.out.mono ?_
      rintro e w4 ⟨rfl, n4⟩
      have N4 := Lib.hid n4
      clear n4
      go_wp2_with fail
      go_meet
      exact ⟨_, _, _, rfl, HE.out, N4.out⟩
  case rest =>
  obtain ⟨⟨k, p, v, K⟩, st, fb, h7, e, n4⟩ := hcut
  subst h7
  rw [e] at HX HS
  simp only at HX HS
  have N4 := Lib.hid n4
  clear k0 N2 H3 HO e n4
  have HEn := Lib.hid (code_REnd wc g st N4.out.rd)
  generalize hen : endS st = en at HX HEn
  clear hen
  go_upto_region 10 with fail
  by_cases he : en = 0
  · subst he
    cases fb with
    | false =>
      have HE : Hid (decN s = (zeroN, 80)) := Lib.hid (by rw [HX.out, if_pos (.inr (.inl rfl))])
      clear HX
      go_wp2_with fail
      refine HEn.out.mono ?_
      rintro e w5 ⟨rfl, h5, h6⟩
      have N5 := Lib.hid (N4.out.read h5 h6)
      clear h5 h6
      have F5 : Hid (Live w w5 [(rb, 91, #[.int .i64 0, .string ⟨#[]⟩, .string ⟨#[]⟩, .string ⟨#[]⟩, .string ⟨#[]⟩, .string ⟨#[]⟩, .string ⟨#[]⟩, .string ⟨#[]⟩, .string ⟨#[]⟩, .string ⟨#[]⟩, .string ⟨#[]⟩, .string ⟨#[]⟩, .string ⟨#[]⟩, .string ⟨#[]⟩, .string ⟨#[]⟩, .string ⟨#[]⟩, .string ⟨#[]⟩, .string ⟨#[]⟩, .string ⟨#[]⟩])]) := Lib.hid (Live.one (b1.out.2.1.nxt N5.out.b) b1.out.2.2 (b1.out.1.below N5.out.b b1.out.1.lt))
      have TH := F5.out.there 0 19 rfl (by decide)
      have HON : (#[.int .i64 0, .string ⟨#[]⟩, .string ⟨#[]⟩, .string ⟨#[]⟩, .string ⟨#[]⟩, .string ⟨#[]⟩, .string ⟨#[]⟩, .string ⟨#[]⟩, .string ⟨#[]⟩, .string ⟨#[]⟩, .string ⟨#[]⟩, .string ⟨#[]⟩, .string ⟨#[]⟩, .string ⟨#[]⟩, .string ⟨#[]⟩, .string ⟨#[]⟩, .string ⟨#[]⟩, .string ⟨#[]⟩, .string ⟨#[]⟩] : Array Value).all (·.oneCell') = true := by rw [zeros_eq]; exact nodeV_one _ _ _ _
      go_wp2_with (first | ((with_reducible refine at_op 37 ?_); refine wpList_build_eq rfl 91 _ rfl #[.int .i64 0, .string ⟨#[]⟩, .string ⟨#[]⟩, .string ⟨#[]⟩, .string ⟨#[]⟩, .string ⟨#[]⟩, .string ⟨#[]⟩, .string ⟨#[]⟩, .string ⟨#[]⟩, .string ⟨#[]⟩, .string ⟨#[]⟩, .string ⟨#[]⟩, .string ⟨#[]⟩, .string ⟨#[]⟩, .string ⟨#[]⟩, .string ⟨#[]⟩, .string ⟨#[]⟩, .string ⟨#[]⟩, .string ⟨#[]⟩] (by simp only [List.map_toArray, List.map_cons, List.map_nil]; kernel_rfl) ?_) | ((with_reducible refine at_put 37 ?_); refine wpList_store_mid rfl 91 _ _ rfl rb 0 #[.int .i64 0, .string ⟨#[]⟩, .string ⟨#[]⟩, .string ⟨#[]⟩, .string ⟨#[]⟩, .string ⟨#[]⟩, .string ⟨#[]⟩, .string ⟨#[]⟩, .string ⟨#[]⟩, .string ⟨#[]⟩, .string ⟨#[]⟩, .string ⟨#[]⟩, .string ⟨#[]⟩, .string ⟨#[]⟩, .string ⟨#[]⟩, .string ⟨#[]⟩, .string ⟨#[]⟩, .string ⟨#[]⟩, .string ⟨#[]⟩] rfl rfl TH info_node HON ?_; have F6 := Live.hall F5 0 (#[.int .i64 0, .string ⟨#[]⟩, .string ⟨#[]⟩, .string ⟨#[]⟩, .string ⟨#[]⟩, .string ⟨#[]⟩, .string ⟨#[]⟩, .string ⟨#[]⟩, .string ⟨#[]⟩, .string ⟨#[]⟩, .string ⟨#[]⟩, .string ⟨#[]⟩, .string ⟨#[]⟩, .string ⟨#[]⟩, .string ⟨#[]⟩, .string ⟨#[]⟩, .string ⟨#[]⟩, .string ⟨#[]⟩, .string ⟨#[]⟩] : Array Value).toList rfl rfl; generalize World.setCells _ rb 0 _ = W6 at F6 ⊢; have ld : (loadVar 91 ⟨rb, 0, none⟩).run Tryd.prog W6 = .ok (.agg #[.int .i64 0, .string ⟨#[]⟩, .string ⟨#[]⟩, .string ⟨#[]⟩, .string ⟨#[]⟩, .string ⟨#[]⟩, .string ⟨#[]⟩, .string ⟨#[]⟩, .string ⟨#[]⟩, .string ⟨#[]⟩, .string ⟨#[]⟩, .string ⟨#[]⟩, .string ⟨#[]⟩, .string ⟨#[]⟩, .string ⟨#[]⟩, .string ⟨#[]⟩, .string ⟨#[]⟩, .string ⟨#[]⟩, .string ⟨#[]⟩]) W6 := run_loadVar_mid (P := Tryd.prog) W6 rb 0 91 (#[.int .i64 0, .string ⟨#[]⟩, .string ⟨#[]⟩, .string ⟨#[]⟩, .string ⟨#[]⟩, .string ⟨#[]⟩, .string ⟨#[]⟩, .string ⟨#[]⟩, .string ⟨#[]⟩, .string ⟨#[]⟩, .string ⟨#[]⟩, .string ⟨#[]⟩, .string ⟨#[]⟩, .string ⟨#[]⟩, .string ⟨#[]⟩, .string ⟨#[]⟩, .string ⟨#[]⟩, .string ⟨#[]⟩, .string ⟨#[]⟩] : Array Value).toList _ (Blk.range0 (F6.out.blk 0 rfl)) Tryd.underlying91 rfl info_node; clear TH))
      have HF : P (.returned (.tuple #[.agg #[.int .i64 0, .string ⟨#[]⟩, .string ⟨#[]⟩, .string ⟨#[]⟩, .string ⟨#[]⟩, .string ⟨#[]⟩, .string ⟨#[]⟩, .string ⟨#[]⟩, .string ⟨#[]⟩, .string ⟨#[]⟩, .string ⟨#[]⟩, .string ⟨#[]⟩, .string ⟨#[]⟩, .string ⟨#[]⟩, .string ⟨#[]⟩, .string ⟨#[]⟩, .string ⟨#[]⟩, .string ⟨#[]⟩, .string ⟨#[]⟩], .int .i64 80])) W6 := HP.out W6 zeroN 80 HE.out F6.out.b
      exact ⟨rfl, _, results_cell2 rfl rfl ld rfl, HF⟩
    | true =>
      have HC := Lib.hid (node_Check k p v (by have := HS.out.1; omega) (by have := HS.out.2.1; omega) K HS.out.2.2.1 (fun x hx => by have := HS.out.2.2.2 x hx; omega))
      have HF : Hid (fineN k p v K = fineD (k, p, v, K)) := Lib.hid rfl
      rw [HF.out] at HC
      have SZ : (Tryd.prog.info? 91).map (·.size) = some (nodeV k p v K).length := by rw [nodeV_size HS.out.2.2.1]; exact info_node
      have HON := nodeV_one k p v K
      have HSz := Lib.hid (nodeV_size (k := k) (p := p) (v := v) HS.out.2.2.1)
      have HEq : Hid (∀ w' (c : Nat), decN s = ((k, p, v, K), c) → Below w.heap.size w w' → P (.returned (.tuple #[.agg (nodeV k p v K).toArray, .int .i64 (c : Int)])) w') := Lib.hid (fun w' c e h => HP.out w' (k, p, v, K) c e h)
      go_wp2_with fail
      refine HEn.out.mono ?_
      rintro e w5 ⟨rfl, h5, h6⟩
      have N5 := Lib.hid (N4.out.read h5 h6)
      have B5 : Hid (Blk w5 nb 91 (nodeV k p v K).toArray) := Lib.hid N5.out.nd
      clear h5 h6
      have HE : Hid (decN s = if fineD (k, p, v, K) = true then ((k, p, v, K), 0) else (zeroN, 80)) := Lib.hid (by
        rw [HX.out]
        cases fineD (k, p, v, K) <;> simp)
      clear HX HF
      generalize nodeV k p v K = NV at *
      have RA := Blk.range0 B5.out
      cases hfd : fineD (k, p, v, K) with
      | true =>
        rw [hfd, if_pos rfl] at HE
        rw [hfd] at HC
        clear hfd
        go_wp2_with (first | ((with_reducible refine at_op 33 ?_); refine wpList_load_want (by rfl) 91 _ rfl nb 0 rfl _ _ RA Tryd.underlying91 rfl SZ ?_) | fail)
        refine (HC.out _).mono ?_
        rintro e w6 ⟨rfl, hb6⟩
        have N6 := Lib.hid (N5.out.b.nxt hb6)
        have B6 := Lib.hid (B5.out.below hb6 B5.out.lt)
        have F6 : Hid (Live w w6 [(rb, 91, #[.int .i64 0, .string ⟨#[]⟩, .string ⟨#[]⟩, .string ⟨#[]⟩, .string ⟨#[]⟩, .string ⟨#[]⟩, .string ⟨#[]⟩, .string ⟨#[]⟩, .string ⟨#[]⟩, .string ⟨#[]⟩, .string ⟨#[]⟩, .string ⟨#[]⟩, .string ⟨#[]⟩, .string ⟨#[]⟩, .string ⟨#[]⟩, .string ⟨#[]⟩, .string ⟨#[]⟩, .string ⟨#[]⟩, .string ⟨#[]⟩])]) := Lib.hid (Live.one (b1.out.2.1.nxt N6.out) b1.out.2.2 (b1.out.1.below N6.out b1.out.1.lt))
        have TH : w6.there rb 0 NV.toArray.size := by
          rw [show NV.toArray.size = 19 by rw [List.size_toArray]; exact HSz.out]
          exact F6.out.there 0 19 rfl (by decide)
        have SZ2 : (Tryd.prog.info? 91).map (·.size) = some NV.toArray.size := by rw [List.size_toArray]; exact SZ
        have RA6 := Blk.range0 B6.out
        clear RA hb6
        go_wp2_with (first | ((with_reducible refine at_op 38 ?_); refine wpList_load_want (by rfl) 91 _ rfl nb 0 rfl _ _ RA6 Tryd.underlying91 rfl SZ ?_) | ((with_reducible refine at_put 38 ?_); refine wpList_store_mid rfl 91 _ _ rfl rb 0 NV.toArray rfl rfl TH SZ2 HON ?_; have F7 := Live.hall F6 0 NV.toArray.toList rfl HSz.out.symm; generalize World.setCells _ rb 0 _ = W7 at F7 ⊢; have ld := run_loadVar_mid (P := Tryd.prog) W7 rb 0 91 NV.toArray.toList _ (Blk.range0 (F7.out.blk 0 rfl)) Tryd.underlying91 rfl SZ; clear TH SZ2))
        have HF := HEq.out W7 0 HE.out F7.out.b
        exact ⟨rfl, _, results_cell2 rfl rfl ld rfl, HF⟩
      | false =>
        rw [hfd, if_neg (by decide)] at HE
        rw [hfd] at HC
        clear hfd
        go_wp2_with (first | ((with_reducible refine at_op 33 ?_); refine wpList_load_want (by rfl) 91 _ rfl nb 0 rfl _ _ RA Tryd.underlying91 rfl SZ ?_) | fail)
        refine (HC.out _).mono ?_
        rintro e w6 ⟨rfl, hb6⟩
        have N6 := Lib.hid (N5.out.b.nxt hb6)
        clear RA hb6 HON
        have F5 : Hid (Live w w6 [(rb, 91, #[.int .i64 0, .string ⟨#[]⟩, .string ⟨#[]⟩, .string ⟨#[]⟩, .string ⟨#[]⟩, .string ⟨#[]⟩, .string ⟨#[]⟩, .string ⟨#[]⟩, .string ⟨#[]⟩, .string ⟨#[]⟩, .string ⟨#[]⟩, .string ⟨#[]⟩, .string ⟨#[]⟩, .string ⟨#[]⟩, .string ⟨#[]⟩, .string ⟨#[]⟩, .string ⟨#[]⟩, .string ⟨#[]⟩, .string ⟨#[]⟩])]) := Lib.hid (Live.one (b1.out.2.1.nxt N6.out) b1.out.2.2 (b1.out.1.below N6.out b1.out.1.lt))
        have TH := F5.out.there 0 19 rfl (by decide)
        have HON : (#[.int .i64 0, .string ⟨#[]⟩, .string ⟨#[]⟩, .string ⟨#[]⟩, .string ⟨#[]⟩, .string ⟨#[]⟩, .string ⟨#[]⟩, .string ⟨#[]⟩, .string ⟨#[]⟩, .string ⟨#[]⟩, .string ⟨#[]⟩, .string ⟨#[]⟩, .string ⟨#[]⟩, .string ⟨#[]⟩, .string ⟨#[]⟩, .string ⟨#[]⟩, .string ⟨#[]⟩, .string ⟨#[]⟩, .string ⟨#[]⟩] : Array Value).all (·.oneCell') = true := by rw [zeros_eq]; exact nodeV_one _ _ _ _
        go_wp2_with (first | ((with_reducible refine at_op 37 ?_); refine wpList_build_eq rfl 91 _ rfl #[.int .i64 0, .string ⟨#[]⟩, .string ⟨#[]⟩, .string ⟨#[]⟩, .string ⟨#[]⟩, .string ⟨#[]⟩, .string ⟨#[]⟩, .string ⟨#[]⟩, .string ⟨#[]⟩, .string ⟨#[]⟩, .string ⟨#[]⟩, .string ⟨#[]⟩, .string ⟨#[]⟩, .string ⟨#[]⟩, .string ⟨#[]⟩, .string ⟨#[]⟩, .string ⟨#[]⟩, .string ⟨#[]⟩, .string ⟨#[]⟩] (by simp only [List.map_toArray, List.map_cons, List.map_nil]; kernel_rfl) ?_) | ((with_reducible refine at_put 37 ?_); refine wpList_store_mid rfl 91 _ _ rfl rb 0 #[.int .i64 0, .string ⟨#[]⟩, .string ⟨#[]⟩, .string ⟨#[]⟩, .string ⟨#[]⟩, .string ⟨#[]⟩, .string ⟨#[]⟩, .string ⟨#[]⟩, .string ⟨#[]⟩, .string ⟨#[]⟩, .string ⟨#[]⟩, .string ⟨#[]⟩, .string ⟨#[]⟩, .string ⟨#[]⟩, .string ⟨#[]⟩, .string ⟨#[]⟩, .string ⟨#[]⟩, .string ⟨#[]⟩, .string ⟨#[]⟩] rfl rfl TH info_node HON ?_; have F6 := Live.hall F5 0 (#[.int .i64 0, .string ⟨#[]⟩, .string ⟨#[]⟩, .string ⟨#[]⟩, .string ⟨#[]⟩, .string ⟨#[]⟩, .string ⟨#[]⟩, .string ⟨#[]⟩, .string ⟨#[]⟩, .string ⟨#[]⟩, .string ⟨#[]⟩, .string ⟨#[]⟩, .string ⟨#[]⟩, .string ⟨#[]⟩, .string ⟨#[]⟩, .string ⟨#[]⟩, .string ⟨#[]⟩, .string ⟨#[]⟩, .string ⟨#[]⟩] : Array Value).toList rfl rfl; generalize World.setCells _ rb 0 _ = W6 at F6 ⊢; have ld : (loadVar 91 ⟨rb, 0, none⟩).run Tryd.prog W6 = .ok (.agg #[.int .i64 0, .string ⟨#[]⟩, .string ⟨#[]⟩, .string ⟨#[]⟩, .string ⟨#[]⟩, .string ⟨#[]⟩, .string ⟨#[]⟩, .string ⟨#[]⟩, .string ⟨#[]⟩, .string ⟨#[]⟩, .string ⟨#[]⟩, .string ⟨#[]⟩, .string ⟨#[]⟩, .string ⟨#[]⟩, .string ⟨#[]⟩, .string ⟨#[]⟩, .string ⟨#[]⟩, .string ⟨#[]⟩, .string ⟨#[]⟩]) W6 := run_loadVar_mid (P := Tryd.prog) W6 rb 0 91 (#[.int .i64 0, .string ⟨#[]⟩, .string ⟨#[]⟩, .string ⟨#[]⟩, .string ⟨#[]⟩, .string ⟨#[]⟩, .string ⟨#[]⟩, .string ⟨#[]⟩, .string ⟨#[]⟩, .string ⟨#[]⟩, .string ⟨#[]⟩, .string ⟨#[]⟩, .string ⟨#[]⟩, .string ⟨#[]⟩, .string ⟨#[]⟩, .string ⟨#[]⟩, .string ⟨#[]⟩, .string ⟨#[]⟩, .string ⟨#[]⟩] : Array Value).toList _ (Blk.range0 (F6.out.blk 0 rfl)) Tryd.underlying91 rfl info_node; clear TH))
        have HF : P (.returned (.tuple #[.agg #[.int .i64 0, .string ⟨#[]⟩, .string ⟨#[]⟩, .string ⟨#[]⟩, .string ⟨#[]⟩, .string ⟨#[]⟩, .string ⟨#[]⟩, .string ⟨#[]⟩, .string ⟨#[]⟩, .string ⟨#[]⟩, .string ⟨#[]⟩, .string ⟨#[]⟩, .string ⟨#[]⟩, .string ⟨#[]⟩, .string ⟨#[]⟩, .string ⟨#[]⟩, .string ⟨#[]⟩, .string ⟨#[]⟩, .string ⟨#[]⟩], .int .i64 80])) W6 := HP.out W6 zeroN 80 HE.out F6.out.b
        exact ⟨rfl, _, results_cell2 rfl rfl ld rfl, HF⟩
  · have HE : Hid (decN s = (zeroN, 80)) := Lib.hid (by rw [HX.out, if_pos (.inl he)])
    have hen : ((en : Int) != 0) = true := by simp; exact he
    clear HX he
    go_wp2_with fail
    refine HEn.out.mono ?_
    rintro e w5 ⟨rfl, h5, h6⟩
    have N5 := Lib.hid (N4.out.read h5 h6)
    clear h5 h6
    have F5 : Hid (Live w w5 [(rb, 91, #[.int .i64 0, .string ⟨#[]⟩, .string ⟨#[]⟩, .string ⟨#[]⟩, .string ⟨#[]⟩, .string ⟨#[]⟩, .string ⟨#[]⟩, .string ⟨#[]⟩, .string ⟨#[]⟩, .string ⟨#[]⟩, .string ⟨#[]⟩, .string ⟨#[]⟩, .string ⟨#[]⟩, .string ⟨#[]⟩, .string ⟨#[]⟩, .string ⟨#[]⟩, .string ⟨#[]⟩, .string ⟨#[]⟩, .string ⟨#[]⟩])]) := Lib.hid (Live.one (b1.out.2.1.nxt N5.out.b) b1.out.2.2 (b1.out.1.below N5.out.b b1.out.1.lt))
    have TH := F5.out.there 0 19 rfl (by decide)
    have HON : (#[.int .i64 0, .string ⟨#[]⟩, .string ⟨#[]⟩, .string ⟨#[]⟩, .string ⟨#[]⟩, .string ⟨#[]⟩, .string ⟨#[]⟩, .string ⟨#[]⟩, .string ⟨#[]⟩, .string ⟨#[]⟩, .string ⟨#[]⟩, .string ⟨#[]⟩, .string ⟨#[]⟩, .string ⟨#[]⟩, .string ⟨#[]⟩, .string ⟨#[]⟩, .string ⟨#[]⟩, .string ⟨#[]⟩, .string ⟨#[]⟩] : Array Value).all (·.oneCell') = true := by rw [zeros_eq]; exact nodeV_one _ _ _ _
    go_wp2_with (first | ((with_reducible refine at_op 37 ?_); refine wpList_build_eq rfl 91 _ rfl #[.int .i64 0, .string ⟨#[]⟩, .string ⟨#[]⟩, .string ⟨#[]⟩, .string ⟨#[]⟩, .string ⟨#[]⟩, .string ⟨#[]⟩, .string ⟨#[]⟩, .string ⟨#[]⟩, .string ⟨#[]⟩, .string ⟨#[]⟩, .string ⟨#[]⟩, .string ⟨#[]⟩, .string ⟨#[]⟩, .string ⟨#[]⟩, .string ⟨#[]⟩, .string ⟨#[]⟩, .string ⟨#[]⟩, .string ⟨#[]⟩] (by simp only [List.map_toArray, List.map_cons, List.map_nil]; kernel_rfl) ?_) | ((with_reducible refine at_put 37 ?_); refine wpList_store_mid rfl 91 _ _ rfl rb 0 #[.int .i64 0, .string ⟨#[]⟩, .string ⟨#[]⟩, .string ⟨#[]⟩, .string ⟨#[]⟩, .string ⟨#[]⟩, .string ⟨#[]⟩, .string ⟨#[]⟩, .string ⟨#[]⟩, .string ⟨#[]⟩, .string ⟨#[]⟩, .string ⟨#[]⟩, .string ⟨#[]⟩, .string ⟨#[]⟩, .string ⟨#[]⟩, .string ⟨#[]⟩, .string ⟨#[]⟩, .string ⟨#[]⟩, .string ⟨#[]⟩] rfl rfl TH info_node HON ?_; have F6 := Live.hall F5 0 (#[.int .i64 0, .string ⟨#[]⟩, .string ⟨#[]⟩, .string ⟨#[]⟩, .string ⟨#[]⟩, .string ⟨#[]⟩, .string ⟨#[]⟩, .string ⟨#[]⟩, .string ⟨#[]⟩, .string ⟨#[]⟩, .string ⟨#[]⟩, .string ⟨#[]⟩, .string ⟨#[]⟩, .string ⟨#[]⟩, .string ⟨#[]⟩, .string ⟨#[]⟩, .string ⟨#[]⟩, .string ⟨#[]⟩, .string ⟨#[]⟩] : Array Value).toList rfl rfl; generalize World.setCells _ rb 0 _ = W6 at F6 ⊢; have ld : (loadVar 91 ⟨rb, 0, none⟩).run Tryd.prog W6 = .ok (.agg #[.int .i64 0, .string ⟨#[]⟩, .string ⟨#[]⟩, .string ⟨#[]⟩, .string ⟨#[]⟩, .string ⟨#[]⟩, .string ⟨#[]⟩, .string ⟨#[]⟩, .string ⟨#[]⟩, .string ⟨#[]⟩, .string ⟨#[]⟩, .string ⟨#[]⟩, .string ⟨#[]⟩, .string ⟨#[]⟩, .string ⟨#[]⟩, .string ⟨#[]⟩, .string ⟨#[]⟩, .string ⟨#[]⟩, .string ⟨#[]⟩]) W6 := run_loadVar_mid (P := Tryd.prog) W6 rb 0 91 (#[.int .i64 0, .string ⟨#[]⟩, .string ⟨#[]⟩, .string ⟨#[]⟩, .string ⟨#[]⟩, .string ⟨#[]⟩, .string ⟨#[]⟩, .string ⟨#[]⟩, .string ⟨#[]⟩, .string ⟨#[]⟩, .string ⟨#[]⟩, .string ⟨#[]⟩, .string ⟨#[]⟩, .string ⟨#[]⟩, .string ⟨#[]⟩, .string ⟨#[]⟩, .string ⟨#[]⟩, .string ⟨#[]⟩, .string ⟨#[]⟩] : Array Value).toList _ (Blk.range0 (F6.out.blk 0 rfl)) Tryd.underlying91 rfl info_node; clear TH))
    have HF : P (.returned (.tuple #[.agg #[.int .i64 0, .string ⟨#[]⟩, .string ⟨#[]⟩, .string ⟨#[]⟩, .string ⟨#[]⟩, .string ⟨#[]⟩, .string ⟨#[]⟩, .string ⟨#[]⟩, .string ⟨#[]⟩, .string ⟨#[]⟩, .string ⟨#[]⟩, .string ⟨#[]⟩, .string ⟨#[]⟩, .string ⟨#[]⟩, .string ⟨#[]⟩, .string ⟨#[]⟩, .string ⟨#[]⟩, .string ⟨#[]⟩, .string ⟨#[]⟩], .int .i64 80])) W6 := HP.out W6 zeroN 80 HE.out F6.out.b
    exact ⟨rfl, _, results_cell2 rfl rfl ld rfl, HF⟩
end Go.Proofs.YtefcmigbdfeaiaaDoor

namespace Go.Proofs.YtefcmigbdfeaiaaDoor
set_option linter.unusedVariables false
open Go.RowKit
attribute [local go_sem] ba_get ByteArray.mk_append_mk
set_option maxRecDepth 100000 in
set_option maxHeartbeats 400000 in
theorem refnib_Of (s : List UInt8) (w : World) (hs : s.length ≤ 2000) :
    Calls Tryd.prog 52 #[.string ⟨s.toArray⟩] w fun e w' => e = .returned (.string ⟨(Nib.of s).toArray⟩) ∧ Below w.heap.size w w' := by
  go_enter Tryd.func52, Tryd.ntmps52
  go_wp2
  refine wp_loop_ghost_k (fun k a wr => ∀ Φ : Act → Prop, (∀ (s1 s2 s5 s6 s7 s8 s9 s10 s11 s12 s13 s14 s15 s16 s17 s18 s19 s20 s21 s22 s23 : Value) (i : Nat) (t : List UInt8), (i + k = s.length ∧ t.length = 2 * i ∧ t = Nib.of (s.take i) ∧ Below w.heap.size w wr) → Φ { tmps := #[.string ⟨s.toArray⟩, s1, s2, .string ⟨t.toArray⟩, .int .i64 i, s5, s6, s7, s8, s9, s10, s11, s12, s13, s14, s15, s16, s17, s18, s19, s20, s21, s22, s23], defers := [] }) → Φ a) (s.length) ?_ ?_
  · refine fun Φ hΦ => hΦ _ _ _ _ _ _ _ _ _ _ _ _ _ _ _ _ _ _ _ _ _ (0) ([]) ?_
    exact ⟨by omega, rfl, rfl, Below.refl _ _⟩
  · intro k1 a1 wr1 hI1 J1 K1 hJ1 hK1
    refine hI1 (fun a => Code.wp _ _ _ a _) ?_
    clear hI1 a1
    intro s0 s1 s2 s3 s4 s5 s6 s7 s8 s9 s10 s11 s12 s13 s14 s15 s16 s17 s18 s19 s20 i t hrel
    show Code.wp _ _ _ _ _
    obtain ⟨h1, h2, h3, hb⟩ := hrel
    have H3 := Lib.hid h3
    clear h3
    by_cases hi : i < s.length
    · go_wp2
      have hlt := s[i].toNat_lt
      have hq : IntKind.u8.wrap ((s[i].toNat : Int) / 16) = (s[i].toNat : Int) / 16 := IntWalk.u8_in _ (by omega)
      have hc := conv2d (wr1) ((s[i].toNat : Int) / 16) ((s[i].toNat : Int) % 16) (by omega) (by omega) (by omega) (by omega)
      have HE : Hid (t ++ [s[i] / 16, s[i] % 16] = Nib.of (s.take (i + 1))) := Lib.hid (by
        rw [List.take_succ_eq_append_getElem hi, Nib.of_snoc, H3.out])
      clear H3
      go_region
      go_wp2
      refine Handed.intro (s.length - (i + 1)) ?_ (hJ1 _ _ _ (fun Φ hΦ => hΦ _ _ _ _ _ _ _ _ _ _ _ _ _ _ _ _ _ _ _ _ _ (i + 1) (t ++ [s[i] / 16, s[i] % 16]) ?_))
      · omega
      · exact ⟨by omega, by simp; omega, HE.out, (hb.alloc hb.size _).drew⟩
    · have e : s.take i = s := List.take_of_length_le (by omega)
      have e2 : t = Nib.of s := by rw [H3.out, e]
      have E2 := Lib.hid e2
      clear e e2 H3
      go_wp2
      go_ret
      exact ⟨ret_string (by rw [E2.out]), hb⟩
set_option maxRecDepth 100000 in
set_option maxHeartbeats 400000 in
theorem refnib_Fit (s : List UInt8) (w : World) (hs : s.length ≤ 1048576) :
    Calls Tryd.prog 145 #[.string ⟨s.toArray⟩] w fun e w' => e = .returned (.bool (Nib.fit s)) ∧ w = w' := by
  go_enter Tryd.func145, Tryd.ntmps145
  go_wp2
  refine wp_loop_ghost_k (fun k a wr => ∀ Φ : Act → Prop, (∀ (s1 s2 s4 s5 s6 s7 s8 s9 s10 s11 s12 s13 : Value) (i : Nat), (i + k = s.length ∧ Nib.fit (s.take i) = true ∧ wr = w) → Φ { tmps := #[.string ⟨s.toArray⟩, s1, s2, .int .i64 i, s4, s5, s6, s7, s8, s9, s10, s11, s12, s13], defers := [] }) → Φ a) (s.length) ?_ ?_
  · refine fun Φ hΦ => hΦ _ _ _ _ _ _ _ _ _ _ _ _ (0) ?_
    exact ⟨by omega, rfl, rfl⟩
  · intro k1 a1 wr1 hI1 J1 K1 hJ1 hK1
    refine hI1 (fun a => Code.wp _ _ _ a _) ?_
    clear hI1 a1
    intro s0 s1 s2 s3 s4 s5 s6 s7 s8 s9 s10 s11 i hrel
    show Code.wp _ _ _ _ _
    obtain ⟨h1, h2, rfl⟩ := hrel
    have H2 := Lib.hid h2
    clear h2
    by_cases hi : i < s.length
    · have hlt := s[i].toNat_lt
      by_cases hc : s[i] ≤ 15
      · have hq : (s[i].toNat : Int) ≤ 15 := by rw [UInt8.le_iff_toNat_le] at hc; simp at hc; omega
        have HE : Hid (Nib.fit (s.take (i + 1)) = true) := Lib.hid (by rw [Nib.fit_take _ _ hi, H2.out]; simpa using hc)
        clear hc H2
        go_wp2
        refine Handed.intro (s.length - (i + 1)) ?_ (hJ1 _ _ _ (fun Φ hΦ => hΦ _ _ _ _ _ _ _ _ _ _ _ _ (i + 1) ?_))
        · omega
        · exact ⟨by omega, HE.out, rfl⟩
      · have hq : 15 < (s[i].toNat : Int) := by rw [UInt8.le_iff_toNat_le] at hc; simp at hc; omega
        have HE : Hid (Nib.fit s = false) := Lib.hid (Nib.fit_false hi hc)
        clear hc H2
        go_wp2
        go_ret
        exact ⟨by rw [HE.out]; rfl, rfl⟩
    · have HE : Hid (Nib.fit s = true) := Lib.hid (by have := H2.out; rwa [List.take_of_length_le (by omega)] at this)
      clear H2
      go_wp2
      go_ret
      exact ⟨by rw [HE.out]; rfl, rfl⟩
set_option maxRecDepth 100000 in
set_option maxHeartbeats 400000 in
theorem refnib_Common (x y : List UInt8) (w : World) (hx : x.length ≤ 1048576) (hy : y.length ≤ 1048576) :
    Calls Tryd.prog 82 #[.string ⟨x.toArray⟩, .string ⟨y.toArray⟩] w fun e w' => e = .returned (.int .i64 (Nib.common x y)) ∧ Below w.heap.size w w' := by
  go_enter Tryd.func82, Tryd.ntmps82
  go_wp2
  refine wp_loop_ghost_k (fun k a wr => ∀ Φ : Act → Prop, (∀ (s2 s3 s4 s6 s7 s8 s9 s10 s11 s12 s13 s14 s15 s16 s17 s18 s19 s20 s21 s22 s23 s24 s25 s26 s27 : Value) (i : Nat), (i + k = x.length ∧ i ≤ Nib.common x y ∧ Below w.heap.size w wr) → Φ { tmps := #[.string ⟨x.toArray⟩, .string ⟨y.toArray⟩, s2, s3, s4, .int .i64 i, s6, s7, s8, s9, s10, s11, s12, s13, s14, s15, s16, s17, s18, s19, s20, s21, s22, s23, s24, s25, s26, s27], defers := [] }) → Φ a) (x.length) ?_ ?_
  · refine fun Φ hΦ => hΦ _ _ _ _ _ _ _ _ _ _ _ _ _ _ _ _ _ _ _ _ _ _ _ _ _ (0) ?_
    exact ⟨by omega, by omega, Below.refl _ _⟩
  · intro k1 a1 wr1 hI1 J1 K1 hJ1 hK1
    refine hI1 (fun a => Code.wp _ _ _ a _) ?_
    clear hI1 a1
    intro s0 s1 s2 s3 s4 s5 s6 s7 s8 s9 s10 s11 s12 s13 s14 s15 s16 s17 s18 s19 s20 s21 s22 s23 s24 i hrel
    show Code.wp _ _ _ _ _
    obtain ⟨h1, h2, hb⟩ := hrel
    have hcl := Nib.common_le x y
    have fin : ∀ j, j = i → ¬ (i + 1 ≤ Nib.common x y) → Ending.returned (.int .i64 ((j : Nat) : Int)) = .returned (.int .i64 ((Nib.common x y : Nat) : Int)) := fun j e h => ret_int (by omega)
    have Fin := Lib.hid fin
    clear fin
    by_cases hi : i < x.length
    · by_cases hj : i < y.length
      · have hst := Nib.common_step h2 hi hj
        by_cases hc : x[i] = y[i]
        · have hq : ((x[i].toNat : Int) == (y[i].toNat : Int)) = true := by rw [hc]; simp
          have h3 := hst.2 hc
          clear hst hc
          go_wp2
          go_quiet (fail)
          go_wp2
          refine Handed.intro (x.length - (i + 1)) ?_ (hJ1 _ _ _ (fun Φ hΦ => hΦ _ _ _ _ _ _ _ _ _ _ _ _ _ _ _ _ _ _ _ _ _ _ _ _ _ (i + 1) ?_))
          · omega
          · exact ⟨by omega, h3, below_drewN hb _⟩
        · have hq : ((x[i].toNat : Int) == (y[i].toNat : Int)) = false := by
            rw [beq_eq_false_iff_ne]; intro e; exact hc (UInt8.toNat_inj.1 (by omega))
          have h3 := mt hst.1 hc
          have F := Lib.hid (Fin.out i rfl h3)
          clear hst hc h3 Fin
          go_wp2
          go_quiet (fail)
          go_wp2
          go_ret
          exact ⟨F.out, below_drewN hb _⟩
      · have F := Lib.hid (Fin.out i rfl (by omega))
        have hq : decide ((i : Int) < (y.length : Int)) = false := by simp; omega
        clear Fin
        go_wp2
        go_quiet (fail)
        go_wp2
        go_ret
        exact ⟨F.out, below_drewN hb _⟩
    · have F := Lib.hid (Fin.out i rfl (by omega))
      have hq : decide ((i : Int) < (x.length : Int)) = false := by simp; omega
      clear Fin
      go_wp2
      go_quiet (fail)
      go_wp2
      go_ret
      exact ⟨F.out, below_drewN hb _⟩
set_option maxRecDepth 100000 in
set_option maxHeartbeats 400000 in
theorem refnib_Key (s : List UInt8) (w : World) (hs : s.length ≤ 1048576) :
    Calls Tryd.prog 147 #[.string ⟨s.toArray⟩] w fun e w' => e = .returned (.tuple #[.string ⟨(Nib.key s).1.toArray⟩, .int .i64 (Nib.key s).2]) ∧ Below w.heap.size w w' := by
  by_cases hf : Nib.fit s = true
  · by_cases hp : s.length % 2 = 1
    · have HE : Hid (Nib.key s = ([], 4)) := Lib.hid (by unfold Nib.key; rw [if_pos hf, if_pos hp])
      have hq : (((s.length : Nat) : Int) % 2 != 0) = true := by rw [bne_iff_ne]; omega
      have HF := Lib.hid hf
      clear hf hp
      go_enter Tryd.func147, Tryd.ntmps147
      go_wp2_with fail
      refine (refnib_Fit s _ hs).mono ?_
      rintro e w1 ⟨rfl, rfl⟩
      rw [HF.out]
      go_wp2
      go_ret2
      exact ⟨by rw [HE.out]; rfl, Below.refl _ _⟩
    · have HE : Hid (Nib.key s = (Nib.joined s, 0)) := Lib.hid (by unfold Nib.key; rw [if_pos hf, if_neg hp])
      have hq : (((s.length : Nat) : Int) % 2 != 0) = false := by simp; omega
      have hfit : ∀ i, (h : i < s.length) → s[i] ≤ 15 := fun i h => by
        unfold Nib.fit at hf; rw [List.all_eq_true] at hf; simpa using hf s[i] (List.getElem_mem h)
      have HG := Lib.hid hfit
      have HF := Lib.hid hf
      clear hf hfit
      go_enter Tryd.func147, Tryd.ntmps147
      go_wp2_with fail
      refine (refnib_Fit s _ hs).mono ?_
      rintro e w1 ⟨rfl, rfl⟩
      rw [HF.out]
      go_wp2
      refine wp_loop_ghost_k (fun k a wr => ∀ Φ : Act → Prop, (∀ (s1 s2 s6 s7 s8 s9 s10 s11 s12 s13 s14 s15 s16 s17 s18 s19 s20 s21 s22 s23 s24 s25 s26 s27 s28 s29 s30 s31 s32 : Value) (i : Nat) (t : List UInt8), (2 * i + k = s.length ∧ t.length = i ∧ t = Nib.joined (s.take (2 * i)) ∧ Below w.heap.size w wr) → Φ { tmps := #[.string ⟨s.toArray⟩, s1, s2, .int .i64 0, .string ⟨t.toArray⟩, .int .i64 (2 * i : Nat), s6, s7, s8, s9, s10, s11, s12, s13, s14, s15, s16, s17, s18, s19, s20, s21, s22, s23, s24, s25, s26, s27, s28, s29, s30, s31, s32], defers := [] }) → Φ a) (s.length) ?_ ?_
      · refine fun Φ hΦ => hΦ _ _ _ _ _ _ _ _ _ _ _ _ _ _ _ _ _ _ _ _ _ _ _ _ _ _ _ _ _ (0) ([]) ?_
        exact ⟨by omega, rfl, rfl, Below.refl _ _⟩
      · intro k1 a1 wr1 hI1 J1 K1 hJ1 hK1
        refine hI1 (fun a => Code.wp _ _ _ a _) ?_
        clear hI1 a1
        intro s0 s1 s2 s3 s4 s5 s6 s7 s8 s9 s10 s11 s12 s13 s14 s15 s16 s17 s18 s19 s20 s21 s22 s23 s24 s25 s26 s27 s28 i t hrel
        show Code.wp _ _ _ _ _
        obtain ⟨h1, h2, h3, hb⟩ := hrel
        have H3 := Lib.hid h3
        clear h3
        by_cases hi : 2 * i < s.length
        · have h4 : 2 * i + 1 < s.length := by omega
          obtain ⟨bb, hbb⟩ : ∃ bb, bb = s[2 * i] * 16 + s[2 * i + 1] := ⟨_, rfl⟩
          have HE : Hid (t ++ [bb] = Nib.joined (s.take (2 * (i + 1)))) := Lib.hid (by have := Nib.joined_take s i h4; rw [← H3.out, ← hbb] at this; exact this.symm)
          have q9 := u8_pack2 s[2 * i] s[2 * i + 1] (HG.out _ _) (HG.out _ _)
          rw [← hbb] at q9
          clear hbb
          have q2 : IntKind.i64.wrap (2 * (i : Int) + 1) = 2 * (i : Int) + 1 := IntWalk.i64_in _ (by omega)
          have q3 : (2 * (i : Int)).toNat = 2 * i := by omega
          have q4 : (2 * (i : Int) + 1).toNat = 2 * i + 1 := by omega
          have q5 : 2 * (i : Int) < (s.length : Int) := by omega
          have q6 : 2 * (i : Int) + 1 < (s.length : Int) := by omega
          have q7 : 0 ≤ 2 * (i : Int) := by omega
          have q8 : 0 ≤ 2 * (i : Int) + 1 := by omega
          have q10 : ¬ 9223372036854775807 < i + 1 := by omega
          have hc := conv1d wr1 (bb.toNat : Int) (by omega) (by have := bb.toNat_lt; omega)
          go_wp2
          go_region
          all_goals go_wp2
          all_goals (refine Handed.intro (s.length - (2 * i + 2)) ?_ (hJ1 _ _ _ (fun Φ hΦ => hΦ _ _ _ _ _ _ _ _ _ _ _ _ _ _ _ _ _ _ _ _ _ _ _ _ _ _ _ _ _ (i + 1) (t ++ [bb]) ?_)))
          any_goals omega
          all_goals exact ⟨by omega, by simp; omega, HE.out, (hb.alloc hb.size _).drew⟩
        · have HE2 : Hid (t = Nib.joined s) := Lib.hid (by rw [H3.out, List.take_of_length_le (by omega)])
          have q5 : ¬ 2 * (i : Int) < (s.length : Int) := by omega
          clear H3
          go_wp2
          go_ret2
          exact ⟨by rw [HE.out, HE2.out]; rfl, hb⟩
  · have HE : Hid (Nib.key s = ([], 3)) := Lib.hid (by unfold Nib.key; rw [if_neg hf])
    have HF := Lib.hid (show Nib.fit s = false by simpa using hf)
    clear hf
    go_enter Tryd.func147, Tryd.ntmps147
    go_wp2_with fail
    refine (refnib_Fit s _ hs).mono ?_
    rintro e w1 ⟨rfl, rfl⟩
    rw [HF.out]
    go_wp2
    go_ret2
    exact ⟨by rw [HE.out]; rfl, Below.refl _ _⟩
end Go.Proofs.YtefcmigbdfeaiaaDoor

namespace Go.Proofs.YtefcmigbdfeaiaaDoor
set_option linter.unusedVariables false
open Go.RowKit
attribute [local go_sem] ba_get ByteArray.mk_append_mk ByteArray.extract_mk
theorem packs_key_even (l : List UInt8) (leaf : Bool) (hf : Nib.fit l = true) (hp : l.length % 2 = 0) :
    Nib.key ((if leaf then 2 else 0) :: 0 :: l) = (Nib.packed l leaf, 0) := by
  unfold Nib.key
  have h1 : Nib.fit ((if leaf then 2 else 0) :: 0 :: l) = true := by unfold Nib.fit at hf ⊢; cases leaf <;> simpa using hf
  rw [if_pos h1, if_neg (by simp; omega), Nib.packed_even hp, Nib.joined_cons]
  cases leaf <;> rfl
theorem packs_key_odd (a : UInt8) (r : List UInt8) (leaf : Bool) (hf : Nib.fit (a :: r) = true) (hp : (a :: r).length % 2 = 1) :
    Nib.key ((if leaf then 3 else 1) :: a :: r) = (Nib.packed (a :: r) leaf, 0) := by
  unfold Nib.key
  have h1 : Nib.fit ((if leaf then 3 else 1) :: a :: r) = true := by unfold Nib.fit at hf ⊢; cases leaf <;> simpa using hf
  have hp' : (r.length + 1) % 2 = 1 := by simpa using hp
  rw [if_pos h1, if_neg (by simp; omega), Nib.packed_odd hp, Nib.joined_cons]
  cases leaf <;> rfl
set_option maxHeartbeats 400000 in
theorem refnib_Pack (s : List UInt8) (leaf : Bool) (w : World) (hs : s.length ≤ 1000000) :
    Calls Tryd.prog 131 #[.string ⟨s.toArray⟩, .bool leaf] w fun e w' => e = .returned (.tuple #[.string ⟨(Nib.pack s leaf).1.toArray⟩, .int .i64 (Nib.pack s leaf).2]) ∧ Below w.heap.size w w' := by
  by_cases hf : Nib.fit s = true
  · have e1 : Nib.pack s leaf = (Nib.packed s leaf, 0) := by unfold Nib.pack; rw [if_pos hf]
    rw [e1]
    by_cases hp : s.length % 2 = 1
    · obtain ⟨a, r, rfl⟩ : ∃ a r, s = a :: r := by
        cases s with
        | nil => simp at hp
        | cons a r => exact ⟨a, r, rfl⟩
      have HK := Lib.hid (packs_key_odd a r leaf hf hp)
      have HF := Lib.hid hf
      have hp' : ((r.length : Int) + 1) % 2 = 1 := by simp at hp; omega
      have HP := Lib.hid hp'
      have hq1 : (((r.length : Int) + 1) % 2 == 1) = true := by rw [beq_iff_eq]; exact hp'
      have hs' : r.length ≤ 1000000 := by simp at hs; omega
      have hs2 : (a :: r).length ≤ 1048576 := by simp; omega
      clear hf hp e1 hs
      cases leaf
      · go_enter Tryd.func131, Tryd.ntmps131
        go_wp2_with fail
        refine (refnib_Fit (a :: r) _ hs2).mono ?_
        rintro e w1 ⟨rfl, rfl⟩
        rw [HF.out]
        have hw : IntKind.u8.wrap (((r.length : Int) + 1) % 2) = 1 := by rw [HP.out]; rfl
        have hc1 := fun W n h => conv1s W n h 1 (by omega) (by omega)
        have hc2 := fun W n h => conv2s W n h 1 0 (by omega) (by omega) (by omega) (by omega)
        clear hp'
        go_wp2_with fail
        refine (refnib_Key (1 :: a :: r) _ (by simp; omega)).mono ?_
        rintro e w1 ⟨rfl, hb1⟩
        have hk := HK.out
        simp only [Bool.false_eq_true, if_false, if_true] at hk
        rw [hk]
        go_wp2
        go_ret2
        exact ⟨rfl, Below.nxt (by go_grown) hb1⟩
      · go_enter Tryd.func131, Tryd.ntmps131
        go_wp2_with fail
        refine (refnib_Fit (a :: r) _ hs2).mono ?_
        rintro e w1 ⟨rfl, rfl⟩
        rw [HF.out]
        have hw : IntKind.u8.wrap (((r.length : Int) + 1) % 2) = 1 := by rw [HP.out]; rfl
        have hc1 := fun W n h => conv1s W n h 3 (by omega) (by omega)
        have hc2 := fun W n h => conv2s W n h 3 0 (by omega) (by omega) (by omega) (by omega)
        clear hp'
        go_wp2_with fail
        refine (refnib_Key (3 :: a :: r) _ (by simp; omega)).mono ?_
        rintro e w1 ⟨rfl, hb1⟩
        have hk := HK.out
        simp only [Bool.false_eq_true, if_false, if_true] at hk
        rw [hk]
        go_wp2
        go_ret2
        exact ⟨rfl, Below.nxt (by go_grown) hb1⟩
    · have HK := Lib.hid (packs_key_even s leaf hf (by omega))
      have HF := Lib.hid hf
      have hp' : (s.length : Int) % 2 = 0 := by omega
      have HP := Lib.hid hp'
      have hq1 : ((s.length : Int) % 2 == 1) = false := by rw [beq_eq_false_iff_ne]; omega
      have hs2 : s.length ≤ 1048576 := by omega
      clear hf hp e1
      cases leaf
      · go_enter Tryd.func131, Tryd.ntmps131
        go_wp2_with fail
        refine (refnib_Fit s _ hs2).mono ?_
        rintro e w1 ⟨rfl, rfl⟩
        rw [HF.out]
        have hw : IntKind.u8.wrap ((s.length : Int) % 2) = 0 := by rw [HP.out]; rfl
        have hc1 := fun W n h => conv1s W n h 0 (by omega) (by omega)
        have hc2 := fun W n h => conv2s W n h 0 0 (by omega) (by omega) (by omega) (by omega)
        clear hp'
        go_wp2_with fail
        refine (refnib_Key (0 :: 0 :: s) _ (by simp; omega)).mono ?_
        rintro e w1 ⟨rfl, hb1⟩
        have hk := HK.out
        simp only [Bool.false_eq_true, if_false, if_true] at hk
        rw [hk]
        go_wp2
        go_ret2
        exact ⟨rfl, Below.nxt (by go_grown) hb1⟩
      · go_enter Tryd.func131, Tryd.ntmps131
        go_wp2_with fail
        refine (refnib_Fit s _ hs2).mono ?_
        rintro e w1 ⟨rfl, rfl⟩
        rw [HF.out]
        have hw : IntKind.u8.wrap ((s.length : Int) % 2) = 0 := by rw [HP.out]; rfl
        have hc1 := fun W n h => conv1s W n h 2 (by omega) (by omega)
        have hc2 := fun W n h => conv2s W n h 2 0 (by omega) (by omega) (by omega) (by omega)
        clear hp'
        go_wp2_with fail
        refine (refnib_Key (2 :: 0 :: s) _ (by simp; omega)).mono ?_
        rintro e w1 ⟨rfl, hb1⟩
        have hk := HK.out
        simp only [Bool.false_eq_true, if_false, if_true] at hk
        rw [hk]
        go_wp2
        go_ret2
        exact ⟨rfl, Below.nxt (by go_grown) hb1⟩
  · have e1 : Nib.pack s leaf = ([], 3) := by unfold Nib.pack; rw [if_neg hf]
    rw [e1]
    have HF := Lib.hid (show Nib.fit s = false by simpa using hf)
    clear hf e1
    go_enter Tryd.func131, Tryd.ntmps131
    go_wp2_with fail
    refine (refnib_Fit s _ (by omega)).mono ?_
    rintro e w1 ⟨rfl, rfl⟩
    rw [HF.out]
    go_wp2
    go_ret2
    exact ⟨rfl, Below.refl _ _⟩
end Go.Proofs.YtefcmigbdfeaiaaDoor

namespace Go.Proofs.YtefcmigbdfeaiaaDoor
set_option linter.unusedVariables false
open Go.RowKit Go.Instr
attribute [local go_sem] ba_get ByteArray.mk_append_mk
theorem strv_getD {K : List (List UInt8)} {i : Nat} (h : i < K.length) : (strv K)[i]? = some (.string ⟨(K.getD i []).toArray⟩) := by
  rw [strv_at h, List.getD_eq_getElem?_getD, List.getElem?_eq_getElem h]; rfl
set_option maxRecDepth 100000 in
set_option maxHeartbeats 1000000 in
theorem refkids_loop (w w0 : World) (kk : Nat) (p v : List UInt8) (K : List (List UInt8)) (hK : K.length = 16) (F : Hid (Live w w0 [(w.heap.size, 91, (nodeV kk p v K).toArray)]))
    (Q : Exit → Act → World → Prop)
    (hQ : ∀ (s0 s1 s2 s4 s5 s6 s7 s8 s9 s10 s11 s12 s13 s14 s15 s16 s17 s18 s19 s20 s21 : Value) (A : Option Addr) (c n : Nat) (w2 : World), n = (kidsW K).length → w2.ownsRow w.heap.size 9 1 (.slice A n c) n (strv (kidsW K)) → Below w.heap.size w w2 → Q (.exit 0) { tmps := #[s0, s1, s2, .slice A n c, s4, s5, s6, s7, s8, s9, s10, s11, s12, s13, s14, s15, s16, s17, s18, s19, s20, s21], defers := [] } w2)
    (s0 s2 s5 s6 s7 s8 s9 s10 s11 s12 s13 s14 s15 s16 s17 s18 s19 s20 s21 : Value) :
    Code.wp Tryd.prog (.loop (loopAt Tryd.f144 0)) Q { tmps := #[s0, .pointer (some ⟨w.heap.size, 0, none⟩), s2, .slice none 0 0, .int .i64 0, s5, s6, s7, s8, s9, s10, s11, s12, s13, s14, s15, s16, s17, s18, s19, s20, s21], defers := [] } w0 := by
  have HQ := Lib.hid hQ
  clear hQ
  refine wp_loop_ghost_k (fun k a wr => ∀ Φ : Act → Prop, (∀ (s0 s2 s5 s6 s7 s8 s9 s10 s11 s12 s13 s14 s15 s16 s17 s18 s19 s20 s21 : Value) (i n c : Nat) (A : Option Addr), (i + k = 16 ∧ n = (kidsW (K.take i)).length ∧ n ≤ i ∧ wr.ownsRow w.heap.size 9 1 (.slice A n c) n (strv (kidsW (K.take i))) ∧ Live w wr [(w.heap.size, 91, (nodeV kk p v K).toArray)]) → Φ { tmps := #[s0, .pointer (some ⟨w.heap.size, 0, none⟩), s2, .slice A n c, .int .i64 i, s5, s6, s7, s8, s9, s10, s11, s12, s13, s14, s15, s16, s17, s18, s19, s20, s21], defers := [] }) → Φ a) (16) ?_ ?_
  · refine fun Φ hΦ => hΦ _ _ _ _ _ _ _ _ _ _ _ _ _ _ _ _ _ _ _ (0) (0) (0) (none) ?_
    exact ⟨by omega, by simp [kidsW], by omega, by simpa [kidsW, strv] using World.ownsRow_nil _ _ _ _, F.out⟩
  · intro k1 a1 wr1 hI1 J1 K1 hJ1 hK1
    refine hI1 (fun a => Code.wp _ _ _ a _) ?_
    clear hI1 a1
    intro s0 s1 s2 s3 s4 s5 s6 s7 s8 s9 s10 s11 s12 s13 s14 s15 s16 s17 s18 i n c A hrel
    show Code.wp _ _ _ _ _
    clear F
    conv => arg 2; whnf
    obtain ⟨h1, h2, h3, own, hF⟩ := hrel
    have F := Lib.hid hF
    have hb := hF.b
    clear hF
    by_cases hi : i < 16
    · have hi1 : (i : Int) < 16 := by omega
      obtain ⟨_, _, _, RK, _⟩ := NodeAt.of (C := []) (by rw [List.append_nil]; exact F.out.blk 0 rfl)
      have ec : wr1.cell? ⟨w.heap.size, 3 + i, none⟩ = some (.string ⟨(K.getD i []).toArray⟩) := by
        refine RK i _ ?_
        rw [strv_at (show i < K.length by omega), List.getD_eq_getElem?_getD, List.getElem?_eq_getElem (show i < K.length by omega)]
        rfl
      have hks := kidsW_snoc K i (by omega)
      have hg : K.getD i [] = K[i]'(by omega) := by rw [List.getD_eq_getElem?_getD, List.getElem?_eq_getElem (show i < K.length by omega)]; rfl
      rw [← hg] at hks
      generalize K.getD i [] = s at *
      clear hg RK
      have HI := Lib.hid (And.intro h1 (And.intro h2 h3))
      have HK := Lib.hid hks
      have hn16 : n ≤ 16 := by omega
      generalize kidsW (K.take i) = D at *
      cases s with
      | nil =>
        have O := Lib.hid own
        clear own h1 h2 h3 hb hks
        go_wp2
        refine Handed.intro (16 - (i + 1)) ?_ (hJ1 _ _ _ (fun Φ hΦ => hΦ _ _ _ _ _ _ _ _ _ _ _ _ _ _ _ _ _ _ _ (i + 1) (n) (c) (A) ?_))
        · have := HI.out.1
          omega
        · rw [HK.out]
          simp only [List.isEmpty_nil, if_true, List.append_nil]
          exact ⟨by have := HI.out.1; omega, HI.out.2.1, by have := HI.out.2.2; omega, O.out, F.out⟩
      | cons a t =>
        have ne1 : ((a :: t).toArray = #[]) = False := by simp
        have hone : ∀ u ∈ [Value.string ⟨(a :: t).toArray⟩], u.oneCell' = true := by intro u hu; rw [List.mem_singleton] at hu; subst hu; rfl
        clear h1 h2 h3 hks
        have se : (a :: t).isEmpty = false := rfl
        generalize hs : (a :: t) = s at *
        go_wp2_with (at_builtin; refine wpList_append_new wr1 9 [.string ⟨s.toArray⟩] rfl _ _ 36 rfl w.heap.size 1 16 _ info_str Tryd.underlying36 rfl (by decide) (.slice A n c) n (strv D) rfl own 1 1 rfl rfl hone (by simp only [maxLen]; omega) (by omega) w.heap.size w hb (Nat.le_refl _) hb.size ?_; intro v3 w3 own3 hb3 hg3 _ _; obtain ⟨A3, c3, rfl, _, _, _⟩ := own_form own3; have F := Live.hp F own (Nat.le_refl _) (by simp) hg3; have O3 := Lib.hid own3; clear own3 hg3)
        refine Handed.intro (16 - (i + 1)) ?_ (hJ1 _ _ _ (fun Φ hΦ => hΦ _ _ _ _ _ _ _ _ _ _ _ _ _ _ _ _ _ _ _ (i + 1) (n + 1) (c3) (A3) ?_))
        · have := HI.out.1
          omega
        · rw [HK.out, se]
          simp only [Bool.false_eq_true, if_false]
          refine ⟨by have := HI.out.1; omega, by rw [List.length_append, ← HI.out.2.1]; rfl, by have := HI.out.2.2; omega, ?_, F.out⟩
          rw [show strv (D ++ [s]) = strv D ++ [.string ⟨s.toArray⟩] by simp [strv]]
          exact O3.out
    · have e16 : i = 16 := by omega
      subst e16
      rw [List.take_of_length_le (by omega)] at h2 own
      have O := Lib.hid (And.intro own hb)
      clear own hb
      go_wp2
      exact HQ.out _ _ _ _ _ _ _ _ _ _ _ _ _ _ _ _ _ _ _ _ _ _ _ _ _ h2 O.out.1 O.out.2
set_option maxRecDepth 100000 in
theorem ref08_Kids (w : World) (k : Nat) (p v : List UInt8) (K : List (List UInt8)) (hK : K.length = 16) :
    Calls Tryd.prog 144 #[.agg (nodeV k p v K).toArray] w (KidsEnd w K) := by
  have HP : Hid (∀ A c n w', n = (kidsW K).length → w'.ownsRow w.heap.size 9 1 (.slice A n c) n (strv (kidsW K)) → Below w.heap.size w w' → KidsEnd w K (.returned (.slice A n c)) w') := Lib.hid (fun A c n w' g1 g2 g3 => ⟨A, c, n, rfl, g1, g2, g3⟩)
  generalize KidsEnd w K = P at HP ⊢
  go_enter Tryd.func144, Tryd.ntmps144
  go_upto_region 1 with fail
  have F := Live.ha (Lib.hid (Live.start w)) (nodeV k p v K).toArray 91
  generalize w.alloc (.cells (nodeV k p v K).toArray 91) = W0 at F ⊢
  go_upto_region 3 with fail
  refine refkids_loop w W0 k p v K hK F _ ?_ _ _ _ _ _ _ _ _ _ _ _ _ _ _ _ _ _ _ _
  intro s0 s1 s2 s4 s5 s6 s7 s8 s9 s10 s11 s12 s13 s14 s15 s16 s17 s18 s19 s20 s21 A c n w2 g1 g2 g3
  go_wp2
  exact HP.out _ _ _ _ g1 g2 g3
end Go.Proofs.YtefcmigbdfeaiaaDoor
