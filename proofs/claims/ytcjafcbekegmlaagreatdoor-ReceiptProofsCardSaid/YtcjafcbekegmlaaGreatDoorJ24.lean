import Derived.Test.YtcjafcbekegmlaaGreatDoorJ23
import Derived.Deep.DeepCutAuto
import Derived.Test.YtcjafcbekegmlaaGreatDoorJ06
import Derived.Test.YtcjafcbekegmlaaGreatDoorJ07
import Derived.Test.YtcjafcbekegmlaaGreatDoorJ01
import Derived.Test.YtcjafcbekegmlaaGreatDoorJ08
set_option linter.unusedSimpArgs false
set_option linter.unusedVariables false
namespace Go.Proofs.YtcjafcbekegmlaaGreatDoor
set_option linter.unusedVariables false
open Go.RowKit Go.Instr
attribute [local go_sem] ba_get ByteArray.mk_append_mk
def DecNEnd (w : World) (r : Nd × Nat) (e : Ending) (w' : World) : Prop := e = .returned (.tuple #[.agg (nodeV r.1.1 r.1.2.1 r.1.2.2.1 r.1.2.2.2).toArray, .int .i64 (r.2 : Int)]) ∧ Below w.heap.size w w'
theorem kidsR_short (set : Nat) : ∀ n s, ∀ x ∈ (kidsR set n s).1, x.length ≤ 32
  | 0, s, x, h => by simp [kidsR] at h
  | n + 1, s, x, h => by
    simp only [kidsR, List.mem_cons] at h
    rcases h with rfl | h
    · unfold kidR
      split
      · rcases bytesS_len s 32 with h | h
        · rw [h]; exact Nat.zero_le _
        · omega
      · exact Nat.zero_le _
    · exact kidsR_short set n _ x h
theorem zeroK_short : ∀ x ∈ zeroK, x.length ≤ 32 := by intro x h; rw [List.eq_of_mem_replicate h]; exact Nat.zero_le _
theorem readN_short (most : Nat) (hm : most ≤ 1000) (s : List UInt8) : (readN most s).1.2.1.length ≤ 2000 ∧ (readN most s).1.2.2.1.length ≤ 32 ∧ (readN most s).1.2.2.2.length = 16 ∧ ∀ x ∈ (readN most s).1.2.2.2, x.length ≤ 32 := by
  unfold readN
  split
  · refine ⟨Nat.zero_le _, ?_, ?_, ?_⟩
    · unfold brR
      split
      · exact Nat.zero_le _
      · exact txtS_most _ _
    · unfold brR
      split
      · rfl
      · exact kidsR_length _ _ _
    · unfold brR
      split
      · exact zeroK_short
      · exact kidsR_short _ _ _
  · unfold otR
    split
    · refine ⟨?_, txtS_most _ _, rfl, zeroK_short⟩
      have h1 := Nib.unpack_length (txtS (bytesS (s, 0) 1).2 most).1
      have h2 := txtS_most (bytesS (s, 0) 1).2 most
      show (Nib.unpack _).1.length ≤ 2000
      omega
    · refine ⟨?_, Nat.zero_le _, rfl, ?_⟩
      · have h1 := Nib.unpack_length (txtS (bytesS (s, 0) 1).2 most).1
        have h2 := txtS_most (bytesS (s, 0) 1).2 most
        show (Nib.unpack _).1.length ≤ 2000
        omega
      · intro x hx
        rcases List.mem_cons.1 hx with rfl | hx
        · rcases bytesS_len (txtS (bytesS (s, 0) 1).2 most).2 32 with h | h
          · rw [h]; exact Nat.zero_le _
          · omega
        · rw [List.eq_of_mem_replicate hx]; exact Nat.zero_le _
theorem readN_3 (most : Nat) (s : List UInt8) (h : kindR s = 3) : readN most s = ((3, [], (brR (bytesS (s, 0) 1).2).1.1, (brR (bytesS (s, 0) 1).2).1.2), (brR (bytesS (s, 0) 1).2).2, true) := by unfold readN; rw [if_pos h]
theorem readN_o (most : Nat) (s : List UInt8) (h : kindR s ≠ 3) : readN most s = ((kindR s, (otR most (kindR s) (bytesS (s, 0) 1).2).1), (otR most (kindR s) (bytesS (s, 0) 1).2).2) := by unfold readN; rw [if_neg h]
theorem decN_eq (s : List UInt8) : decN s = if endS (readN 16 s).2.1 ≠ 0 ∨ (readN 16 s).2.2 = false ∨ fineD (readN 16 s).1 = false then (zeroN, 80) else ((readN 16 s).1, 0) := rfl
theorem Live.one {w W : World} {g t : Nat} {cs : Array Value} (hb : Below w.heap.size w W) (hg : w.heap.size ≤ g) (h : Blk W g t cs) : Live w W [(g, t, cs)] :=
  ⟨hb, fun x hx => by rw [List.mem_singleton] at hx; subst hx; exact ⟨hg, h⟩, List.pairwise_singleton _ _⟩
theorem nodeV_one (k : Nat) (p v : List UInt8) (K : List (List UInt8)) : (nodeV k p v K).toArray.all (·.oneCell') = true := by
  refine all_oneCell_toArray fun u hu => ?_
  unfold nodeV at hu
  simp only [List.mem_cons] at hu
  rcases hu with rfl | rfl | rfl | hu
  · rfl
  · rfl
  · rfl
  · exact strv_one _ _ hu
theorem Blk.range0 {w : World} {g t : Nat} {cs : List Value} (h : Blk w g t cs.toArray) : w.rangeAt g 0 cs := fun j u hu => by rw [Nat.zero_add]; exact (h.cell j).trans (by simpa using hu)
theorem results_cell2 {P : Program} {fn : Func} {tmps : Array Value} {w : World} {a b : Tmp} {t : TypeId} {p : Addr} {v u : Value} (hr : fn.results = #[.cell a t, .tmp b]) (ha : tmps.getD a undef = .pointer (some p)) (hv : (loadVar t p).run P w = .ok v w) (hb : tmps.getD b undef = u) :
    (results fn tmps).run P w = .ok (.tuple #[v, u]) w := by
  unfold results
  rw [hr]
  rw [Array.getD_eq_getD_getElem?] at ha hb
  simp [Sem.run_bind, ha, hv, hb, asAddr]
theorem zeros_eq : (#[.int .i64 0, .string ⟨#[]⟩, .string ⟨#[]⟩, .string ⟨#[]⟩, .string ⟨#[]⟩, .string ⟨#[]⟩, .string ⟨#[]⟩, .string ⟨#[]⟩, .string ⟨#[]⟩, .string ⟨#[]⟩, .string ⟨#[]⟩, .string ⟨#[]⟩, .string ⟨#[]⟩, .string ⟨#[]⟩, .string ⟨#[]⟩, .string ⟨#[]⟩, .string ⟨#[]⟩, .string ⟨#[]⟩, .string ⟨#[]⟩] : Array Value) = (nodeV 0 [] [] zeroK).toArray := rfl
set_option maxRecDepth 100000 in
set_option maxHeartbeats 2000000 in
theorem node_Decode (w : World) (s : List UInt8) (hs : s.length ≤ 1000000) :
    Calls Tryz.prog 91 #[.string ⟨s.toArray⟩] w (DecNEnd w (decN s)) := by
  have HP : Hid (∀ w' n (c : Nat), decN s = (n, c) → Below w.heap.size w w' → DecNEnd w (decN s) (.returned (.tuple #[.agg (nodeV n.1 n.2.1 n.2.2.1 n.2.2.2).toArray, .int .i64 (c : Int)])) w') := Lib.hid (fun w' n c e h => by rw [e]; exact ⟨rfl, h⟩)
  generalize DecNEnd w (decN s) = P at HP ⊢
  have HX := Lib.hid (decN_eq s)
  have HS := Lib.hid (readN_short 16 (by omega) s)
  have H3 := Lib.hid (readN_3 16 s)
  have HO := Lib.hid (readN_o 16 s)
  have HL := Lib.hid hs
  clear hs
  go_enter Tryz.func91, Tryz.ntmps91
  go_upto_region 1 with fail
  obtain ⟨rb, hrb⟩ : ∃ rb, w.heap.size = rb := ⟨_, rfl⟩
  have b1 : Hid (Blk (w.alloc (.cells #[.int .i64 0, .string ⟨#[]⟩, .string ⟨#[]⟩, .string ⟨#[]⟩, .string ⟨#[]⟩, .string ⟨#[]⟩, .string ⟨#[]⟩, .string ⟨#[]⟩, .string ⟨#[]⟩, .string ⟨#[]⟩, .string ⟨#[]⟩, .string ⟨#[]⟩, .string ⟨#[]⟩, .string ⟨#[]⟩, .string ⟨#[]⟩, .string ⟨#[]⟩, .string ⟨#[]⟩, .string ⟨#[]⟩, .string ⟨#[]⟩] 107)) rb 107 #[.int .i64 0, .string ⟨#[]⟩, .string ⟨#[]⟩, .string ⟨#[]⟩, .string ⟨#[]⟩, .string ⟨#[]⟩, .string ⟨#[]⟩, .string ⟨#[]⟩, .string ⟨#[]⟩, .string ⟨#[]⟩, .string ⟨#[]⟩, .string ⟨#[]⟩, .string ⟨#[]⟩, .string ⟨#[]⟩, .string ⟨#[]⟩, .string ⟨#[]⟩, .string ⟨#[]⟩, .string ⟨#[]⟩, .string ⟨#[]⟩] ∧ Below w.heap.size w (w.alloc (.cells #[.int .i64 0, .string ⟨#[]⟩, .string ⟨#[]⟩, .string ⟨#[]⟩, .string ⟨#[]⟩, .string ⟨#[]⟩, .string ⟨#[]⟩, .string ⟨#[]⟩, .string ⟨#[]⟩, .string ⟨#[]⟩, .string ⟨#[]⟩, .string ⟨#[]⟩, .string ⟨#[]⟩, .string ⟨#[]⟩, .string ⟨#[]⟩, .string ⟨#[]⟩, .string ⟨#[]⟩, .string ⟨#[]⟩, .string ⟨#[]⟩] 107)) ∧ w.heap.size ≤ rb) := Lib.hid (by subst hrb; exact ⟨Blk.new w _ _, by go_grown, Nat.le_refl _⟩)
  rw [hrb]
  generalize w.alloc (.cells #[.int .i64 0, .string ⟨#[]⟩, .string ⟨#[]⟩, .string ⟨#[]⟩, .string ⟨#[]⟩, .string ⟨#[]⟩, .string ⟨#[]⟩, .string ⟨#[]⟩, .string ⟨#[]⟩, .string ⟨#[]⟩, .string ⟨#[]⟩, .string ⟨#[]⟩, .string ⟨#[]⟩, .string ⟨#[]⟩, .string ⟨#[]⟩, .string ⟨#[]⟩, .string ⟨#[]⟩, .string ⟨#[]⟩, .string ⟨#[]⟩] 107) = W1 at b1 ⊢
  clear hrb
  go_upto_region 3 with (go_at_call 61; refine (code_Read s _).mono ?_; rintro e w2 ⟨rfl, rfl⟩)
  have N0 : Hid (RdNd W1 ((W1.alloc (.cells #[.string ⟨s.toArray⟩, .int .i64 0, .int .i64 0] 144)).alloc (.cells #[.int .i64 0, .string ⟨#[]⟩, .string ⟨#[]⟩, .string ⟨#[]⟩, .string ⟨#[]⟩, .string ⟨#[]⟩, .string ⟨#[]⟩, .string ⟨#[]⟩, .string ⟨#[]⟩, .string ⟨#[]⟩, .string ⟨#[]⟩, .string ⟨#[]⟩, .string ⟨#[]⟩, .string ⟨#[]⟩, .string ⟨#[]⟩, .string ⟨#[]⟩, .string ⟨#[]⟩, .string ⟨#[]⟩, .string ⟨#[]⟩] 107)) W1.heap.size (W1.heap.size + 1) (s, 0) zeroN) := Lib.hid ⟨⟨s, 0, (Blk.new W1 _ _).alloc _, Nat.zero_le _, HL.out, rfl⟩, by have := Blk.new (W1.alloc (.cells #[.string ⟨s.toArray⟩, .int .i64 0, .int .i64 0] 144)) 107 #[.int .i64 0, .string ⟨#[]⟩, .string ⟨#[]⟩, .string ⟨#[]⟩, .string ⟨#[]⟩, .string ⟨#[]⟩, .string ⟨#[]⟩, .string ⟨#[]⟩, .string ⟨#[]⟩, .string ⟨#[]⟩, .string ⟨#[]⟩, .string ⟨#[]⟩, .string ⟨#[]⟩, .string ⟨#[]⟩, .string ⟨#[]⟩, .string ⟨#[]⟩, .string ⟨#[]⟩, .string ⟨#[]⟩, .string ⟨#[]⟩]; rw [World.size_alloc] at this; exact this, by omega, Nat.le_refl _, by omega, by go_grown⟩
  generalize ((W1.alloc (.cells #[.string ⟨s.toArray⟩, .int .i64 0, .int .i64 0] 144)).alloc (.cells #[.int .i64 0, .string ⟨#[]⟩, .string ⟨#[]⟩, .string ⟨#[]⟩, .string ⟨#[]⟩, .string ⟨#[]⟩, .string ⟨#[]⟩, .string ⟨#[]⟩, .string ⟨#[]⟩, .string ⟨#[]⟩, .string ⟨#[]⟩, .string ⟨#[]⟩, .string ⟨#[]⟩, .string ⟨#[]⟩, .string ⟨#[]⟩, .string ⟨#[]⟩, .string ⟨#[]⟩, .string ⟨#[]⟩, .string ⟨#[]⟩] 107)) = W3 at N0 ⊢
  generalize W1.heap.size + 1 = nb at N0 ⊢
  generalize W1.heap.size = g at N0 ⊢
  have HBy := Lib.hid (code_RBytes W3 g (s, 0) N0.out.rd 1 (by omega))
  have hkd : (s = [] ∧ (bytesS (s, 0) 1).1 = []) ∨ ∃ c r, s = c :: r ∧ (bytesS (s, 0) 1).1 = [c] := by
    cases s with
    | nil => exact .inl ⟨rfl, rfl⟩
    | cons c r => exact .inr ⟨c, r, rfl, by unfold bytesS; simp⟩
  generalize bytesS (s, 0) 1 = br at *
  obtain ⟨kd, s1⟩ := br
  simp only at HBy hkd H3 HO
  have HKD := Lib.hid hkd
  clear hkd
  go_wp2_with fail
  refine HBy.out.mono ?_
  rintro e w2 ⟨rfl, h1, h2⟩
  have N1 : Hid (RdNd W1 w2 g nb s1 zeroN) := Lib.hid (N0.out.read h1 h2)
  clear h1 h2 HBy N0
  go_upto_if 13 with fail
  go_cut [] (fun wx => RdNd W1 wx g nb s1 (kindR s, [], [], zeroK))
  case first =>
    rcases HKD.out with ⟨e1, e2⟩ | ⟨c, r, e1, e2⟩
    · subst e2
      have hkr : kindR s = 0 := by rw [e1]; rfl
      have HF : Hid (RdNd W1 w2 g nb s1 (kindR s, [], [], zeroK)) := Lib.hid (by rw [hkr]; exact N1.out)
      clear e1 hkr HKD
      go_wp2_with fail
      go_meet
      exact HF.out
    · subst e2
      have hkr : kindR s = c.toNat := by rw [e1]; rfl
      have HR := Lib.hid hkr
      have hw : wrap64 (c.toNat : Int) = (c.toNat : Int) := IntWalk.wrap64_in _ (by have := c.toNat_lt; constructor <;> omega)
      have k0 : w2.cell? ⟨nb, 0, none⟩ = some (.int .i64 0) := N1.out.at0.1
      have f0 : w2.frozen? ⟨nb, 0, none⟩ = false := N1.out.nd.frozen 0
      clear e1 hkr HKD
      go_wp2_with fail
      go_meet
      rw [HR.out]
      exact N1.out.write 0 _ rfl
  case rest =>
  have N2 := Lib.hid hcut
  clear hcut N1 HKD
  generalize hkk : kindR s = kk at *
  clear hkk
  have k0 : wc.cell? ⟨nb, 0, none⟩ = some (.int .i64 (kk : Int)) := N2.out.at0.1
  go_upto_if 20 with fail
  go_cut [7] (fun s7 wx => ∃ n st b, s7 = .bool b ∧ readN 16 s = (n, st, b) ∧ RdNd W1 wx g nb st n)
  case first =>
    by_cases hk : kk = 3
    · subst hk
      have e := H3.out rfl
      have HB := Lib.hid (node_branch W1 wc g nb s1 N2.out)
      generalize brR s1 = B at e HB
      obtain ⟨⟨nv, nK⟩, st⟩ := B
      simp only at e HB
      have HE := Lib.hid e
      clear e k0 H3 HO N2 HX HS
      go_wp2_with fail
      refine HB.out.mono ?_
      rintro e w4 ⟨rfl, n4⟩
      have N4 := Lib.hid n4
      clear n4
      go_wp2_with fail
      go_meet
      exact ⟨_, _, _, rfl, HE.out, N4.out⟩
    · have e := HO.out hk
      have hkI : ((kk : Int) == 3) = false := by simp; omega
      have HB := Lib.hid (node_other W1 wc g nb kk s1 N2.out)
      generalize otR 16 kk s1 = B at e HB
      obtain ⟨⟨np, nv, nK⟩, st, fb⟩ := B
      simp only at e HB
      have HE := Lib.hid e
      clear e hk k0 H3 HO N2 HX HS
      go_wp2_with fail
      refine HB.out.mono ?_
      rintro e w4 ⟨rfl, n4⟩
      have N4 := Lib.hid n4
      clear n4
      go_wp2_with fail
      go_meet
      exact ⟨_, _, _, rfl, HE.out, N4.out⟩
  case rest =>
  obtain ⟨⟨k, p, v, K⟩, st, fb, h7, e, n4⟩ := hcut
  subst h7
  rw [e] at HX HS
  simp only at HX HS
  have N4 := Lib.hid n4
  clear k0 N2 H3 HO e n4
  have HEn := Lib.hid (code_REnd wc g st N4.out.rd)
  generalize hen : endS st = en at HX HEn
  clear hen
  go_upto_region 10 with fail
  by_cases he : en = 0
  · subst he
    cases fb with
    | false =>
      have HE : Hid (decN s = (zeroN, 80)) := Lib.hid (by rw [HX.out, if_pos (.inr (.inl rfl))])
      clear HX
      go_wp2_with fail
      refine HEn.out.mono ?_
      rintro e w5 ⟨rfl, h5, h6⟩
      have N5 := Lib.hid (N4.out.read h5 h6)
      clear h5 h6
      have F5 : Hid (Live w w5 [(rb, 107, #[.int .i64 0, .string ⟨#[]⟩, .string ⟨#[]⟩, .string ⟨#[]⟩, .string ⟨#[]⟩, .string ⟨#[]⟩, .string ⟨#[]⟩, .string ⟨#[]⟩, .string ⟨#[]⟩, .string ⟨#[]⟩, .string ⟨#[]⟩, .string ⟨#[]⟩, .string ⟨#[]⟩, .string ⟨#[]⟩, .string ⟨#[]⟩, .string ⟨#[]⟩, .string ⟨#[]⟩, .string ⟨#[]⟩, .string ⟨#[]⟩])]) := Lib.hid (Live.one (b1.out.2.1.nxt N5.out.b) b1.out.2.2 (b1.out.1.below N5.out.b b1.out.1.lt))
      have TH := F5.out.there 0 19 rfl (by decide)
      have HON : (#[.int .i64 0, .string ⟨#[]⟩, .string ⟨#[]⟩, .string ⟨#[]⟩, .string ⟨#[]⟩, .string ⟨#[]⟩, .string ⟨#[]⟩, .string ⟨#[]⟩, .string ⟨#[]⟩, .string ⟨#[]⟩, .string ⟨#[]⟩, .string ⟨#[]⟩, .string ⟨#[]⟩, .string ⟨#[]⟩, .string ⟨#[]⟩, .string ⟨#[]⟩, .string ⟨#[]⟩, .string ⟨#[]⟩, .string ⟨#[]⟩] : Array Value).all (·.oneCell') = true := by rw [zeros_eq]; exact nodeV_one _ _ _ _
      go_wp2_with (first | ((with_reducible refine at_op 37 ?_); refine wpList_build_eq rfl 107 _ rfl #[.int .i64 0, .string ⟨#[]⟩, .string ⟨#[]⟩, .string ⟨#[]⟩, .string ⟨#[]⟩, .string ⟨#[]⟩, .string ⟨#[]⟩, .string ⟨#[]⟩, .string ⟨#[]⟩, .string ⟨#[]⟩, .string ⟨#[]⟩, .string ⟨#[]⟩, .string ⟨#[]⟩, .string ⟨#[]⟩, .string ⟨#[]⟩, .string ⟨#[]⟩, .string ⟨#[]⟩, .string ⟨#[]⟩, .string ⟨#[]⟩] (by simp only [List.map_toArray, List.map_cons, List.map_nil]; kernel_rfl) ?_) | ((with_reducible refine at_put 37 ?_); refine wpList_store_mid rfl 107 _ _ rfl rb 0 #[.int .i64 0, .string ⟨#[]⟩, .string ⟨#[]⟩, .string ⟨#[]⟩, .string ⟨#[]⟩, .string ⟨#[]⟩, .string ⟨#[]⟩, .string ⟨#[]⟩, .string ⟨#[]⟩, .string ⟨#[]⟩, .string ⟨#[]⟩, .string ⟨#[]⟩, .string ⟨#[]⟩, .string ⟨#[]⟩, .string ⟨#[]⟩, .string ⟨#[]⟩, .string ⟨#[]⟩, .string ⟨#[]⟩, .string ⟨#[]⟩] rfl rfl TH info_node HON ?_; have F6 := Live.hall F5 0 (#[.int .i64 0, .string ⟨#[]⟩, .string ⟨#[]⟩, .string ⟨#[]⟩, .string ⟨#[]⟩, .string ⟨#[]⟩, .string ⟨#[]⟩, .string ⟨#[]⟩, .string ⟨#[]⟩, .string ⟨#[]⟩, .string ⟨#[]⟩, .string ⟨#[]⟩, .string ⟨#[]⟩, .string ⟨#[]⟩, .string ⟨#[]⟩, .string ⟨#[]⟩, .string ⟨#[]⟩, .string ⟨#[]⟩, .string ⟨#[]⟩] : Array Value).toList rfl rfl; generalize World.setCells _ rb 0 _ = W6 at F6 ⊢; have ld : (loadVar 107 ⟨rb, 0, none⟩).run Tryz.prog W6 = .ok (.agg #[.int .i64 0, .string ⟨#[]⟩, .string ⟨#[]⟩, .string ⟨#[]⟩, .string ⟨#[]⟩, .string ⟨#[]⟩, .string ⟨#[]⟩, .string ⟨#[]⟩, .string ⟨#[]⟩, .string ⟨#[]⟩, .string ⟨#[]⟩, .string ⟨#[]⟩, .string ⟨#[]⟩, .string ⟨#[]⟩, .string ⟨#[]⟩, .string ⟨#[]⟩, .string ⟨#[]⟩, .string ⟨#[]⟩, .string ⟨#[]⟩]) W6 := run_loadVar_mid (P := Tryz.prog) W6 rb 0 107 (#[.int .i64 0, .string ⟨#[]⟩, .string ⟨#[]⟩, .string ⟨#[]⟩, .string ⟨#[]⟩, .string ⟨#[]⟩, .string ⟨#[]⟩, .string ⟨#[]⟩, .string ⟨#[]⟩, .string ⟨#[]⟩, .string ⟨#[]⟩, .string ⟨#[]⟩, .string ⟨#[]⟩, .string ⟨#[]⟩, .string ⟨#[]⟩, .string ⟨#[]⟩, .string ⟨#[]⟩, .string ⟨#[]⟩, .string ⟨#[]⟩] : Array Value).toList _ (Blk.range0 (F6.out.blk 0 rfl)) Tryz.underlying107 rfl info_node; clear TH))
      have HF : P (.returned (.tuple #[.agg #[.int .i64 0, .string ⟨#[]⟩, .string ⟨#[]⟩, .string ⟨#[]⟩, .string ⟨#[]⟩, .string ⟨#[]⟩, .string ⟨#[]⟩, .string ⟨#[]⟩, .string ⟨#[]⟩, .string ⟨#[]⟩, .string ⟨#[]⟩, .string ⟨#[]⟩, .string ⟨#[]⟩, .string ⟨#[]⟩, .string ⟨#[]⟩, .string ⟨#[]⟩, .string ⟨#[]⟩, .string ⟨#[]⟩, .string ⟨#[]⟩], .int .i64 80])) W6 := HP.out W6 zeroN 80 HE.out F6.out.b
      exact ⟨rfl, _, results_cell2 rfl rfl ld rfl, HF⟩
    | true =>
      have HC := Lib.hid (node_Check k p v (by have := HS.out.1; omega) (by have := HS.out.2.1; omega) K HS.out.2.2.1 (fun x hx => by have := HS.out.2.2.2 x hx; omega))
      have HF : Hid (fineN k p v K = fineD (k, p, v, K)) := Lib.hid rfl
      rw [HF.out] at HC
      have SZ : (Tryz.prog.info? 107).map (·.size) = some (nodeV k p v K).length := by rw [nodeV_size HS.out.2.2.1]; exact info_node
      have HON := nodeV_one k p v K
      have HSz := Lib.hid (nodeV_size (k := k) (p := p) (v := v) HS.out.2.2.1)
      have HEq : Hid (∀ w' (c : Nat), decN s = ((k, p, v, K), c) → Below w.heap.size w w' → P (.returned (.tuple #[.agg (nodeV k p v K).toArray, .int .i64 (c : Int)])) w') := Lib.hid (fun w' c e h => HP.out w' (k, p, v, K) c e h)
      go_wp2_with fail
      refine HEn.out.mono ?_
      rintro e w5 ⟨rfl, h5, h6⟩
      have N5 := Lib.hid (N4.out.read h5 h6)
      have B5 : Hid (Blk w5 nb 107 (nodeV k p v K).toArray) := Lib.hid N5.out.nd
      clear h5 h6
      have HE : Hid (decN s = if fineD (k, p, v, K) = true then ((k, p, v, K), 0) else (zeroN, 80)) := Lib.hid (by
        rw [HX.out]
        cases fineD (k, p, v, K) <;> simp)
      clear HX HF
      generalize nodeV k p v K = NV at *
      have RA := Blk.range0 B5.out
      cases hfd : fineD (k, p, v, K) with
      | true =>
        rw [hfd, if_pos rfl] at HE
        rw [hfd] at HC
        clear hfd
        go_wp2_with (first | ((with_reducible refine at_op 33 ?_); refine wpList_load_want (by rfl) 107 _ rfl nb 0 rfl _ _ RA Tryz.underlying107 rfl SZ ?_) | fail)
        refine (HC.out _).mono ?_
        rintro e w6 ⟨rfl, hb6⟩
        have N6 := Lib.hid (N5.out.b.nxt hb6)
        have B6 := Lib.hid (B5.out.below hb6 B5.out.lt)
        have F6 : Hid (Live w w6 [(rb, 107, #[.int .i64 0, .string ⟨#[]⟩, .string ⟨#[]⟩, .string ⟨#[]⟩, .string ⟨#[]⟩, .string ⟨#[]⟩, .string ⟨#[]⟩, .string ⟨#[]⟩, .string ⟨#[]⟩, .string ⟨#[]⟩, .string ⟨#[]⟩, .string ⟨#[]⟩, .string ⟨#[]⟩, .string ⟨#[]⟩, .string ⟨#[]⟩, .string ⟨#[]⟩, .string ⟨#[]⟩, .string ⟨#[]⟩, .string ⟨#[]⟩])]) := Lib.hid (Live.one (b1.out.2.1.nxt N6.out) b1.out.2.2 (b1.out.1.below N6.out b1.out.1.lt))
        have TH : w6.there rb 0 NV.toArray.size := by
          rw [show NV.toArray.size = 19 by rw [List.size_toArray]; exact HSz.out]
          exact F6.out.there 0 19 rfl (by decide)
        have SZ2 : (Tryz.prog.info? 107).map (·.size) = some NV.toArray.size := by rw [List.size_toArray]; exact SZ
        have RA6 := Blk.range0 B6.out
        clear RA hb6
        go_wp2_with (first | ((with_reducible refine at_op 38 ?_); refine wpList_load_want (by rfl) 107 _ rfl nb 0 rfl _ _ RA6 Tryz.underlying107 rfl SZ ?_) | ((with_reducible refine at_put 38 ?_); refine wpList_store_mid rfl 107 _ _ rfl rb 0 NV.toArray rfl rfl TH SZ2 HON ?_; have F7 := Live.hall F6 0 NV.toArray.toList rfl HSz.out.symm; generalize World.setCells _ rb 0 _ = W7 at F7 ⊢; have ld := run_loadVar_mid (P := Tryz.prog) W7 rb 0 107 NV.toArray.toList _ (Blk.range0 (F7.out.blk 0 rfl)) Tryz.underlying107 rfl SZ; clear TH SZ2))
        have HF := HEq.out W7 0 HE.out F7.out.b
        exact ⟨rfl, _, results_cell2 rfl rfl ld rfl, HF⟩
      | false =>
        rw [hfd, if_neg (by decide)] at HE
        rw [hfd] at HC
        clear hfd
        go_wp2_with (first | ((with_reducible refine at_op 33 ?_); refine wpList_load_want (by rfl) 107 _ rfl nb 0 rfl _ _ RA Tryz.underlying107 rfl SZ ?_) | fail)
        refine (HC.out _).mono ?_
        rintro e w6 ⟨rfl, hb6⟩
        have N6 := Lib.hid (N5.out.b.nxt hb6)
        clear RA hb6 HON
        have F5 : Hid (Live w w6 [(rb, 107, #[.int .i64 0, .string ⟨#[]⟩, .string ⟨#[]⟩, .string ⟨#[]⟩, .string ⟨#[]⟩, .string ⟨#[]⟩, .string ⟨#[]⟩, .string ⟨#[]⟩, .string ⟨#[]⟩, .string ⟨#[]⟩, .string ⟨#[]⟩, .string ⟨#[]⟩, .string ⟨#[]⟩, .string ⟨#[]⟩, .string ⟨#[]⟩, .string ⟨#[]⟩, .string ⟨#[]⟩, .string ⟨#[]⟩, .string ⟨#[]⟩])]) := Lib.hid (Live.one (b1.out.2.1.nxt N6.out) b1.out.2.2 (b1.out.1.below N6.out b1.out.1.lt))
        have TH := F5.out.there 0 19 rfl (by decide)
        have HON : (#[.int .i64 0, .string ⟨#[]⟩, .string ⟨#[]⟩, .string ⟨#[]⟩, .string ⟨#[]⟩, .string ⟨#[]⟩, .string ⟨#[]⟩, .string ⟨#[]⟩, .string ⟨#[]⟩, .string ⟨#[]⟩, .string ⟨#[]⟩, .string ⟨#[]⟩, .string ⟨#[]⟩, .string ⟨#[]⟩, .string ⟨#[]⟩, .string ⟨#[]⟩, .string ⟨#[]⟩, .string ⟨#[]⟩, .string ⟨#[]⟩] : Array Value).all (·.oneCell') = true := by rw [zeros_eq]; exact nodeV_one _ _ _ _
        go_wp2_with (first | ((with_reducible refine at_op 37 ?_); refine wpList_build_eq rfl 107 _ rfl #[.int .i64 0, .string ⟨#[]⟩, .string ⟨#[]⟩, .string ⟨#[]⟩, .string ⟨#[]⟩, .string ⟨#[]⟩, .string ⟨#[]⟩, .string ⟨#[]⟩, .string ⟨#[]⟩, .string ⟨#[]⟩, .string ⟨#[]⟩, .string ⟨#[]⟩, .string ⟨#[]⟩, .string ⟨#[]⟩, .string ⟨#[]⟩, .string ⟨#[]⟩, .string ⟨#[]⟩, .string ⟨#[]⟩, .string ⟨#[]⟩] (by simp only [List.map_toArray, List.map_cons, List.map_nil]; kernel_rfl) ?_) | ((with_reducible refine at_put 37 ?_); refine wpList_store_mid rfl 107 _ _ rfl rb 0 #[.int .i64 0, .string ⟨#[]⟩, .string ⟨#[]⟩, .string ⟨#[]⟩, .string ⟨#[]⟩, .string ⟨#[]⟩, .string ⟨#[]⟩, .string ⟨#[]⟩, .string ⟨#[]⟩, .string ⟨#[]⟩, .string ⟨#[]⟩, .string ⟨#[]⟩, .string ⟨#[]⟩, .string ⟨#[]⟩, .string ⟨#[]⟩, .string ⟨#[]⟩, .string ⟨#[]⟩, .string ⟨#[]⟩, .string ⟨#[]⟩] rfl rfl TH info_node HON ?_; have F6 := Live.hall F5 0 (#[.int .i64 0, .string ⟨#[]⟩, .string ⟨#[]⟩, .string ⟨#[]⟩, .string ⟨#[]⟩, .string ⟨#[]⟩, .string ⟨#[]⟩, .string ⟨#[]⟩, .string ⟨#[]⟩, .string ⟨#[]⟩, .string ⟨#[]⟩, .string ⟨#[]⟩, .string ⟨#[]⟩, .string ⟨#[]⟩, .string ⟨#[]⟩, .string ⟨#[]⟩, .string ⟨#[]⟩, .string ⟨#[]⟩, .string ⟨#[]⟩] : Array Value).toList rfl rfl; generalize World.setCells _ rb 0 _ = W6 at F6 ⊢; have ld : (loadVar 107 ⟨rb, 0, none⟩).run Tryz.prog W6 = .ok (.agg #[.int .i64 0, .string ⟨#[]⟩, .string ⟨#[]⟩, .string ⟨#[]⟩, .string ⟨#[]⟩, .string ⟨#[]⟩, .string ⟨#[]⟩, .string ⟨#[]⟩, .string ⟨#[]⟩, .string ⟨#[]⟩, .string ⟨#[]⟩, .string ⟨#[]⟩, .string ⟨#[]⟩, .string ⟨#[]⟩, .string ⟨#[]⟩, .string ⟨#[]⟩, .string ⟨#[]⟩, .string ⟨#[]⟩, .string ⟨#[]⟩]) W6 := run_loadVar_mid (P := Tryz.prog) W6 rb 0 107 (#[.int .i64 0, .string ⟨#[]⟩, .string ⟨#[]⟩, .string ⟨#[]⟩, .string ⟨#[]⟩, .string ⟨#[]⟩, .string ⟨#[]⟩, .string ⟨#[]⟩, .string ⟨#[]⟩, .string ⟨#[]⟩, .string ⟨#[]⟩, .string ⟨#[]⟩, .string ⟨#[]⟩, .string ⟨#[]⟩, .string ⟨#[]⟩, .string ⟨#[]⟩, .string ⟨#[]⟩, .string ⟨#[]⟩, .string ⟨#[]⟩] : Array Value).toList _ (Blk.range0 (F6.out.blk 0 rfl)) Tryz.underlying107 rfl info_node; clear TH))
        have HF : P (.returned (.tuple #[.agg #[.int .i64 0, .string ⟨#[]⟩, .string ⟨#[]⟩, .string ⟨#[]⟩, .string ⟨#[]⟩, .string ⟨#[]⟩, .string ⟨#[]⟩, .string ⟨#[]⟩, .string ⟨#[]⟩, .string ⟨#[]⟩, .string ⟨#[]⟩, .string ⟨#[]⟩, .string ⟨#[]⟩, .string ⟨#[]⟩, .string ⟨#[]⟩, .string ⟨#[]⟩, .string ⟨#[]⟩, .string ⟨#[]⟩, .string ⟨#[]⟩], .int .i64 80])) W6 := HP.out W6 zeroN 80 HE.out F6.out.b
        exact ⟨rfl, _, results_cell2 rfl rfl ld rfl, HF⟩
  · have HE : Hid (decN s = (zeroN, 80)) := Lib.hid (by rw [HX.out, if_pos (.inl he)])
    have hen : ((en : Int) != 0) = true := by simp; exact he
    clear HX he
    go_wp2_with fail
    refine HEn.out.mono ?_
    rintro e w5 ⟨rfl, h5, h6⟩
    have N5 := Lib.hid (N4.out.read h5 h6)
    clear h5 h6
    have F5 : Hid (Live w w5 [(rb, 107, #[.int .i64 0, .string ⟨#[]⟩, .string ⟨#[]⟩, .string ⟨#[]⟩, .string ⟨#[]⟩, .string ⟨#[]⟩, .string ⟨#[]⟩, .string ⟨#[]⟩, .string ⟨#[]⟩, .string ⟨#[]⟩, .string ⟨#[]⟩, .string ⟨#[]⟩, .string ⟨#[]⟩, .string ⟨#[]⟩, .string ⟨#[]⟩, .string ⟨#[]⟩, .string ⟨#[]⟩, .string ⟨#[]⟩, .string ⟨#[]⟩])]) := Lib.hid (Live.one (b1.out.2.1.nxt N5.out.b) b1.out.2.2 (b1.out.1.below N5.out.b b1.out.1.lt))
    have TH := F5.out.there 0 19 rfl (by decide)
    have HON : (#[.int .i64 0, .string ⟨#[]⟩, .string ⟨#[]⟩, .string ⟨#[]⟩, .string ⟨#[]⟩, .string ⟨#[]⟩, .string ⟨#[]⟩, .string ⟨#[]⟩, .string ⟨#[]⟩, .string ⟨#[]⟩, .string ⟨#[]⟩, .string ⟨#[]⟩, .string ⟨#[]⟩, .string ⟨#[]⟩, .string ⟨#[]⟩, .string ⟨#[]⟩, .string ⟨#[]⟩, .string ⟨#[]⟩, .string ⟨#[]⟩] : Array Value).all (·.oneCell') = true := by rw [zeros_eq]; exact nodeV_one _ _ _ _
    go_wp2_with (first | ((with_reducible refine at_op 37 ?_); refine wpList_build_eq rfl 107 _ rfl #[.int .i64 0, .string ⟨#[]⟩, .string ⟨#[]⟩, .string ⟨#[]⟩, .string ⟨#[]⟩, .string ⟨#[]⟩, .string ⟨#[]⟩, .string ⟨#[]⟩, .string ⟨#[]⟩, .string ⟨#[]⟩, .string ⟨#[]⟩, .string ⟨#[]⟩, .string ⟨#[]⟩, .string ⟨#[]⟩, .string ⟨#[]⟩, .string ⟨#[]⟩, .string ⟨#[]⟩, .string ⟨#[]⟩, .string ⟨#[]⟩] (by simp only [List.map_toArray, List.map_cons, List.map_nil]; kernel_rfl) ?_) | ((with_reducible refine at_put 37 ?_); refine wpList_store_mid rfl 107 _ _ rfl rb 0 #[.int .i64 0, .string ⟨#[]⟩, .string ⟨#[]⟩, .string ⟨#[]⟩, .string ⟨#[]⟩, .string ⟨#[]⟩, .string ⟨#[]⟩, .string ⟨#[]⟩, .string ⟨#[]⟩, .string ⟨#[]⟩, .string ⟨#[]⟩, .string ⟨#[]⟩, .string ⟨#[]⟩, .string ⟨#[]⟩, .string ⟨#[]⟩, .string ⟨#[]⟩, .string ⟨#[]⟩, .string ⟨#[]⟩, .string ⟨#[]⟩] rfl rfl TH info_node HON ?_; have F6 := Live.hall F5 0 (#[.int .i64 0, .string ⟨#[]⟩, .string ⟨#[]⟩, .string ⟨#[]⟩, .string ⟨#[]⟩, .string ⟨#[]⟩, .string ⟨#[]⟩, .string ⟨#[]⟩, .string ⟨#[]⟩, .string ⟨#[]⟩, .string ⟨#[]⟩, .string ⟨#[]⟩, .string ⟨#[]⟩, .string ⟨#[]⟩, .string ⟨#[]⟩, .string ⟨#[]⟩, .string ⟨#[]⟩, .string ⟨#[]⟩, .string ⟨#[]⟩] : Array Value).toList rfl rfl; generalize World.setCells _ rb 0 _ = W6 at F6 ⊢; have ld : (loadVar 107 ⟨rb, 0, none⟩).run Tryz.prog W6 = .ok (.agg #[.int .i64 0, .string ⟨#[]⟩, .string ⟨#[]⟩, .string ⟨#[]⟩, .string ⟨#[]⟩, .string ⟨#[]⟩, .string ⟨#[]⟩, .string ⟨#[]⟩, .string ⟨#[]⟩, .string ⟨#[]⟩, .string ⟨#[]⟩, .string ⟨#[]⟩, .string ⟨#[]⟩, .string ⟨#[]⟩, .string ⟨#[]⟩, .string ⟨#[]⟩, .string ⟨#[]⟩, .string ⟨#[]⟩, .string ⟨#[]⟩]) W6 := run_loadVar_mid (P := Tryz.prog) W6 rb 0 107 (#[.int .i64 0, .string ⟨#[]⟩, .string ⟨#[]⟩, .string ⟨#[]⟩, .string ⟨#[]⟩, .string ⟨#[]⟩, .string ⟨#[]⟩, .string ⟨#[]⟩, .string ⟨#[]⟩, .string ⟨#[]⟩, .string ⟨#[]⟩, .string ⟨#[]⟩, .string ⟨#[]⟩, .string ⟨#[]⟩, .string ⟨#[]⟩, .string ⟨#[]⟩, .string ⟨#[]⟩, .string ⟨#[]⟩, .string ⟨#[]⟩] : Array Value).toList _ (Blk.range0 (F6.out.blk 0 rfl)) Tryz.underlying107 rfl info_node; clear TH))
    have HF : P (.returned (.tuple #[.agg #[.int .i64 0, .string ⟨#[]⟩, .string ⟨#[]⟩, .string ⟨#[]⟩, .string ⟨#[]⟩, .string ⟨#[]⟩, .string ⟨#[]⟩, .string ⟨#[]⟩, .string ⟨#[]⟩, .string ⟨#[]⟩, .string ⟨#[]⟩, .string ⟨#[]⟩, .string ⟨#[]⟩, .string ⟨#[]⟩, .string ⟨#[]⟩, .string ⟨#[]⟩, .string ⟨#[]⟩, .string ⟨#[]⟩, .string ⟨#[]⟩], .int .i64 80])) W6 := HP.out W6 zeroN 80 HE.out F6.out.b
    exact ⟨rfl, _, results_cell2 rfl rfl ld rfl, HF⟩
end Go.Proofs.YtcjafcbekegmlaaGreatDoor

namespace Go.Proofs.YtcjafcbekegmlaaGreatDoor
set_option linter.unusedVariables false
open Go.RowKit Go.Instr
attribute [local go_sem] ba_get ByteArray.mk_append_mk
set_option maxRecDepth 100000 in
set_option maxHeartbeats 1000000 in
theorem ref02_Number (n : Nat) (hn : n < 9223372036854775808) (w : World) :
    Calls Tryz.prog 103 #[.int .i64 (n : Int)] w fun e w' => e = .returned (.string ⟨(numW n).toArray⟩) ∧ Below w.heap.size w w' := by
  have HP : Hid (∀ w', Below w.heap.size w w' → (fun e w' => e = Ending.returned (.string ⟨(numW n).toArray⟩) ∧ Below w.heap.size w w') (Ending.returned (.string ⟨(UInt8.ofNat (beB n).length :: beB n).toArray⟩)) w') := Lib.hid (fun w' hb => ⟨rfl, hb⟩)
  generalize (fun e w' => e = Ending.returned (.string ⟨(numW n).toArray⟩) ∧ Below w.heap.size w w') = P at HP ⊢
  have HL := Lib.hid (beB_len 8 n (by omega))
  have HN := Lib.hid hn
  clear hn
  go_enter Tryz.func103, Tryz.ntmps103
  go_wp2_with fail
  refine wp_loop_ghost_k (fun k a wr => ∀ Φ : Act → Prop, (∀ (s1 s2 s4 s5 s6 s7 s8 s9 s10 s11 s12 s13 s14 s15 s16 s17 s18 s19 s20 s21 : Value) (m : Nat) (s : List UInt8), (m = k ∧ m ≤ n ∧ beB n = beB m ++ s ∧ Below w.heap.size w wr) → Φ { tmps := #[.int .i64 (m : Int), s1, s2, .string ⟨s.toArray⟩, s4, s5, s6, s7, s8, s9, s10, s11, s12, s13, s14, s15, s16, s17, s18, s19, s20, s21], defers := [] }) → Φ a) (n) ?_ ?_
  · refine fun Φ hΦ => hΦ _ _ _ _ _ _ _ _ _ _ _ _ _ _ _ _ _ _ _ _ (n) ([]) ?_
    exact ⟨rfl, Nat.le_refl _, by simp, Below.refl _ _⟩
  · intro k1 a1 wr1 hI1 J1 K1 hJ1 hK1
    refine hI1 (fun a => Code.wp _ _ _ a _) ?_
    clear hI1 a1
    intro s0 s1 s2 s3 s4 s5 s6 s7 s8 s9 s10 s11 s12 s13 s14 s15 s16 s17 s18 s19 m s hrel
    show Code.wp _ _ _ _ _
    obtain ⟨h1, h2, h3, hb⟩ := hrel
    have HB := Lib.hid hb
    have H3 := Lib.hid h3
    have H2 := Lib.hid h2
    have H1 := Lib.hid h1
    have hAl : Hid (∀ f, Below w.heap.size w (wr1.alloc (.cells f 5))) := Lib.hid (fun f => hb.trans ((show Below wr1.heap.size wr1 (wr1.alloc (.cells f 5)) from by go_grown).mono hb.size))
    clear h1 h2 h3 hb
    by_cases hm : 0 < m
    · have hm1 : (0 : Int) < (m : Int) := by omega
      have er : (m : Int).tmod 256 = ((m % 256 : Nat) : Int) := by rw [Int.tmod_eq_emod_of_nonneg (by omega)]; omega
      have eq : (m : Int).tdiv 256 = ((m / 256 : Nat) : Int) := by rw [Int.tdiv_eq_ediv_of_nonneg (by omega)]; omega
      have ew2 : ((m % 256 : Nat) : Int) % 256 = ((m % 256 : Nat) : Int) := by omega
      have cv := conv1d wr1 ((m : Int) % 256) (by omega) (by omega)
      have cv2 := conv1 wr1 ((m : Int) % 256) (by omega) (by omega)
      rw [show UInt8.ofNat ((m : Int) % 256).toNat = UInt8.ofNat m by rw [show ((m : Int) % 256).toNat = m % 256 by omega]; apply UInt8.toNat_inj.1; simp] at cv cv2
      have HE : Hid (beB n = beB (m / 256) ++ UInt8.ofNat m :: s) := Lib.hid (by rw [H3.out, beB_pos hm, List.append_assoc]; rfl)
      have hsl : s.length ≤ 8 := by have := congrArg List.length HE.out; simp at this; have := HL.out; omega
      have HMd : Hid (m / 256 < m ∧ m / 256 ≤ n) := Lib.hid ⟨by omega, by have := H2.out; omega⟩
      have hsl2 : s.length + 1 ≤ 9223372036854775807 := by omega
      have hsl3 : 1 + s.length ≤ 9223372036854775807 := by omega
      have wd : wrap64 ((m : Int) / 256) = ((m / 256 : Nat) : Int) := by rw [IntWalk.wrap64_in _ (by have := H2.out; have := HN.out; omega)]; omega
      go_wp2
      simp only [wd]
      refine Handed.intro (m / 256) ?_ (hJ1 _ _ _ (fun Φ hΦ => hΦ _ _ _ _ _ _ _ _ _ _ _ _ _ _ _ _ _ _ _ _ (m / 256) (UInt8.ofNat m :: s) ?_))
      · have := H1.out; have := HMd.out.1; omega
      exact ⟨rfl, HMd.out.2, HE.out, hAl.out _⟩
    · have hm1 : (0 < m) = False := by simp; omega
      have HE : Hid (beB n = s) := Lib.hid (by rw [H3.out, show m = 0 by omega, beB_zero]; rfl)
      have hsl : s.length ≤ 8 := by have := HE.out; have := HL.out; rw [‹beB n = s›] at this; exact this
      rw [HE.out] at HP
      have cv := conv1d wr1 (s.length : Int) (by omega) (by omega)
      have cv2 := conv1 wr1 (s.length : Int) (by omega) (by omega)
      rw [show UInt8.ofNat ((s.length : Int)).toNat = UInt8.ofNat s.length by congr 1] at cv cv2
      clear hm H3 HE
      have hsl2 : s.length + 1 ≤ 9223372036854775807 := by omega
      have hsl3 : 1 + s.length ≤ 9223372036854775807 := by omega
      go_wp2
      exact HP.out _ (hAl.out _)
set_option maxRecDepth 100000 in
theorem ref02_Text (s : List UInt8) (hs : s.length ≤ 9223372036854775000) (w : World) :
    Calls Tryz.prog 104 #[.string ⟨s.toArray⟩] w fun e w' => e = .returned (.string ⟨(textW s).toArray⟩) ∧ Below w.heap.size w w' := by
  have HP : Hid (∀ w', Below w.heap.size w w' → (fun e w' => e = Ending.returned (.string ⟨(textW s).toArray⟩) ∧ Below w.heap.size w w') (Ending.returned (.string ⟨(numW s.length ++ s).toArray⟩)) w') := Lib.hid (fun w' hb => ⟨rfl, hb⟩)
  generalize (fun e w' => e = Ending.returned (.string ⟨(textW s).toArray⟩) ∧ Below w.heap.size w w') = P at HP ⊢
  go_enter Tryz.func104, Tryz.ntmps104
  go_wp2_with fail
  refine (ref02_Number s.length (by omega) _).mono ?_
  rintro e w1 ⟨rfl, hb⟩
  have hl := numW_len s.length (by omega)
  generalize numW s.length = N at *
  have hsum : N.length + s.length ≤ 9223372036854775807 := by omega
  go_wp2
  exact HP.out _ hb
end Go.Proofs.YtcjafcbekegmlaaGreatDoor

namespace Go.Proofs.YtcjafcbekegmlaaGreatDoor
set_option linter.unusedVariables false
open Go.RowKit Go.Instr
attribute [local go_sem] ba_get ByteArray.mk_append_mk
set_option maxRecDepth 100000 in
set_option maxHeartbeats 1000000 in
theorem take_loop (h : UInt8) (r : List UInt8) (K : Nat) (hk : K ≤ r.length) (hk8 : K ≤ 8) (hv : valBE (r.take K) < 9223372036854775808) (w0 : World)
    (Q : Exit → Act → World → Prop)
    (hQ : ∀ (s1 s2 s3 s4 s7 s8 s9 s10 s11 s12 s13 s14 s15 s16 s17 s18 s19 s20 s21 s22 s23 s24 s25 s26 s27 s28 s29 s30 s31 s32 s33 s34 s35 s36 s37 s38 s39 s40 s41 s42 s43 s44 s45 s46 s47 s48 s49 s50 s51 s52 : Value), Q (.exit 0) { tmps := #[.string ⟨(h :: r).toArray⟩, s1, s2, s3, s4, .int .i64 (K : Int), .int .i64 (valBE (r.take K) : Int), s7, s8, s9, s10, s11, s12, s13, s14, s15, s16, s17, s18, s19, s20, s21, s22, s23, s24, s25, s26, s27, s28, s29, s30, s31, s32, s33, s34, s35, s36, s37, s38, s39, s40, s41, s42, s43, s44, s45, s46, s47, s48, s49, s50, s51, s52], defers := [] } w0)
    (s1 s2 s3 s4 s8 s9 s10 s11 s12 s13 s14 s15 s16 s17 s18 s19 s20 s21 s22 s23 s24 s25 s26 s27 s28 s29 s30 s31 s32 s33 s34 s35 s36 s37 s38 s39 s40 s41 s42 s43 s44 s45 s46 s47 s48 s49 s50 s51 s52 : Value) :
    Code.wp Tryz.prog (.loop (loopAt Tryz.f108 0)) Q { tmps := #[.string ⟨(h :: r).toArray⟩, s1, s2, s3, s4, .int .i64 (K : Int), .int .i64 0, .int .i64 1, s8, s9, s10, s11, s12, s13, s14, s15, s16, s17, s18, s19, s20, s21, s22, s23, s24, s25, s26, s27, s28, s29, s30, s31, s32, s33, s34, s35, s36, s37, s38, s39, s40, s41, s42, s43, s44, s45, s46, s47, s48, s49, s50, s51, s52], defers := [] } w0 := by
  have HQ := Lib.hid hQ
  clear hQ
  refine wp_loop_ghost_k (fun k a wr => ∀ Φ : Act → Prop, (∀ (s1 s2 s3 s4 s8 s9 s10 s11 s12 s13 s14 s15 s16 s17 s18 s19 s20 s21 s22 s23 s24 s25 s26 s27 s28 s29 s30 s31 s32 s33 s34 s35 s36 s37 s38 s39 s40 s41 s42 s43 s44 s45 s46 s47 s48 s49 s50 s51 s52 : Value) (i n : Nat), (i + k = K ∧ valBE (r.take i) = n ∧ wr = w0) → Φ { tmps := #[.string ⟨(h :: r).toArray⟩, s1, s2, s3, s4, .int .i64 (K : Int), .int .i64 (n : Int), .int .i64 ((i + 1 : Nat) : Int), s8, s9, s10, s11, s12, s13, s14, s15, s16, s17, s18, s19, s20, s21, s22, s23, s24, s25, s26, s27, s28, s29, s30, s31, s32, s33, s34, s35, s36, s37, s38, s39, s40, s41, s42, s43, s44, s45, s46, s47, s48, s49, s50, s51, s52], defers := [] }) → Φ a) (K) ?_ ?_
  · refine fun Φ hΦ => hΦ _ _ _ _ _ _ _ _ _ _ _ _ _ _ _ _ _ _ _ _ _ _ _ _ _ _ _ _ _ _ _ _ _ _ _ _ _ _ _ _ _ _ _ _ _ _ _ _ _ (0) (0) ?_
    exact ⟨by omega, by simp [valBE], rfl⟩
  · intro k1 a1 wr1 hI1 J1 K1 hJ1 hK1
    refine hI1 (fun a => Code.wp _ _ _ a _) ?_
    clear hI1 a1
    intro s0 s1 s2 s3 s4 s5 s6 s7 s8 s9 s10 s11 s12 s13 s14 s15 s16 s17 s18 s19 s20 s21 s22 s23 s24 s25 s26 s27 s28 s29 s30 s31 s32 s33 s34 s35 s36 s37 s38 s39 s40 s41 s42 s43 s44 s45 s46 s47 s48 i n hrel
    show Code.wp _ _ _ _ _
    conv => arg 2; whnf
    obtain ⟨h1, h2, rfl⟩ := hrel
    by_cases hi : i < K
    · have hir : i < r.length := by omega
      have h3 := valBE_take r i hir
      have h4 : valBE (r.take (i + 1)) ≤ valBE (r.take K) := by
        have := valBE_mono (r.take K) (i + 1)
        rwa [List.take_take, show min (i + 1) K = i + 1 by omega] at this
      have hx := (r.getD i 0).toNat_lt
      have HN : Hid (valBE (r.take (i + 1)) = n * 256 + (r.getD i 0).toNat) := Lib.hid (by rw [h3, h2])
      have hsum : n * 256 + (r.getD i 0).toNat < 9223372036854775808 := by rw [h2] at h3; omega
      have hix := fun W => run_byte (h :: r) (i + 1) (by simp; omega) W
      rw [show (h :: r).getD (i + 1) 0 = r.getD i 0 by simp [List.getD_eq_getElem?_getD]] at hix
      have HI := Lib.hid h1
      have hi1 : ((i + 1 : Nat) : Int) ≤ K := by omega
      have hmul : wrap64 ((n : Int) * 256) = (n : Int) * 256 := IntWalk.wrap64_in _ (by omega)
      have hadd : wrap64 ((n : Int) * 256 + ((r.getD i 0).toNat : Int)) = ((n * 256 + (r.getD i 0).toNat : Nat) : Int) := by rw [IntWalk.wrap64_in _ (by omega)]; omega
      have hinc : wrap64 (((i + 1 : Nat) : Int) + 1) = ((i + 1 + 1 : Nat) : Int) := by rw [IntWalk.wrap64_in _ (by omega)]; omega
      clear h1 h2 h3 h4 hir hsum
      generalize r.getD i 0 = x at *
      generalize hii : i + 1 = ii at *
      go_wp2_with fail
      have q1 : ((n : Int) * 256 + (x.toNat : Int)) = ((n * 256 + x.toNat : Nat) : Int) := by omega
      have q2 : ((ii : Int) + 1) = ((ii + 1 : Nat) : Int) := by omega
      rw [q1, q2]
      subst hii
      refine Handed.intro (K - (i + 1)) ?_ (hJ1 _ _ _ (fun Φ hΦ => hΦ _ _ _ _ _ _ _ _ _ _ _ _ _ _ _ _ _ _ _ _ _ _ _ _ _ _ _ _ _ _ _ _ _ _ _ _ _ _ _ _ _ _ _ _ _ _ _ _ _ (i + 1) (n * 256 + x.toNat) ?_))
      · have := HI.out
        show K - (i + 1) < k1
        omega
      · have := HI.out
        exact ⟨by omega, HN.out, rfl⟩
    · have e : i = K := by omega
      subst e
      subst h2
      have hi2 : (((i + 1 : Nat) : Int) ≤ (i : Int)) = False := by simp; omega
      generalize hii : i + 1 = ii at *
      clear h1 hi
      go_wp2_with fail
      exact HQ.out _ _ _ _ _ _ _ _ _ _ _ _ _ _ _ _ _ _ _ _ _ _ _ _ _ _ _ _ _ _ _ _ _ _ _ _ _ _ _ _ _ _ _ _ _ _ _ _ _ _
def TakeEnd (w : World) (r : Nat × List UInt8 × Nat) (e : Ending) (w' : World) : Prop := e = .returned (.tuple #[.int .i64 (r.1 : Int), .string ⟨r.2.1.toArray⟩, .int .i64 (r.2.2 : Int)]) ∧ Below w.heap.size w w'
set_option maxRecDepth 100000 in
set_option maxHeartbeats 1000000 in
theorem ref02_take (s : List UInt8) (hs : s.length ≤ 1000000) (w : World) :
    Calls Tryz.prog 108 #[.string ⟨s.toArray⟩] w (TakeEnd w (numT s)) := by
  have HP : Hid (∀ (n : Nat) (rest : List UInt8) (c : Nat) w', numT s = (n, rest, c) → Below w.heap.size w w' → TakeEnd w (numT s) (.returned (.tuple #[.int .i64 (n : Int), .string ⟨rest.toArray⟩, .int .i64 (c : Int)])) w') := Lib.hid (fun n rest c w' e h => by rw [e]; exact ⟨rfl, h⟩)
  generalize TakeEnd w (numT s) = P at HP ⊢
  cases s with
  | nil =>
    have HE : Hid (numT [] = (0, [], 20)) := Lib.hid rfl
    go_enter Tryz.func108, Tryz.ntmps108
    go_wp2
    exact HP.out 0 [] 20 _ HE.out (Below.refl _ _)
  | cons h r =>
    have hE := numT_cons h r
    have hrl : r.length + 1 ≤ 1000000 := by simpa using hs
    have hix := fun W => run_byte (h :: r) 0 (by simp) W
    simp only [List.getD_cons_zero] at hix
    have h256 := h.toNat_lt
    clear hs
    by_cases h8 : 8 < h.toNat
    · have HE : Hid (numT (h :: r) = (0, [], 3)) := Lib.hid (by rw [hE, if_pos h8])
      have h8I : (8 : Int) < (h.toNat : Int) := by omega
      clear hE h8
      go_enter Tryz.func108, Tryz.ntmps108
      go_wp2
      exact HP.out 0 [] 3 _ HE.out (Below.refl _ _)
    have h8I : ((8 : Int) < (h.toNat : Int)) = False := by simp; omega
    rw [if_neg h8] at hE
    have hadd : wrap64 ((h.toNat : Int) + 1) = (h.toNat : Int) + 1 := IntWalk.wrap64_in _ (by omega)
    by_cases hlt : r.length < h.toNat
    · have HE : Hid (numT (h :: r) = (0, [], 20)) := Lib.hid (by rw [hE, if_pos hlt])
      have hlI : ((r.length : Int) + 1 < (h.toNat : Int) + 1) := by omega
      have hlI2 : ((r.length : Int) < (h.toNat : Int)) := by omega
      clear hE h8 hlt
      go_enter Tryz.func108, Tryz.ntmps108
      go_wp2
      exact HP.out 0 [] 20 _ HE.out (Below.refl _ _)
    have hle : h.toNat ≤ r.length := by omega
    have hlI : ((r.length : Int) + 1 < (h.toNat : Int) + 1) = False := by simp; omega
    have hlI2 : ((r.length : Int) < (h.toNat : Int)) = False := by simp; omega
    rw [if_neg hlt] at hE
    by_cases hz : h.toNat = 0
    · have HE : Hid (numT (h :: r) = (valBE (r.take h.toNat), r.drop h.toNat, 0)) := Lib.hid (by rw [hE, if_neg (by omega)])
      have hz1 : ((0 : Int) < (h.toNat : Int)) = False := by simp; omega
      have hz2 : ((h.toNat : Int) == 8) = false := by rw [beq_eq_false_iff_ne]; omega
      have hz3 : (0 < h.toNat) = False := by simp; omega
      clear hE hlt hz
      have HRd := Lib.hid (fun W => run_drop (h :: r) (h.toNat + 1) (by simp; omega) W)
      have hrd := HRd.out
      rw [show ((h.toNat + 1 : Nat) : Int) = (h.toNat : Int) + 1 by omega, List.drop_succ_cons] at hrd
      have HTk := Lib.hid (numT_lt (s := h :: r) (n := valBE (r.take h.toNat)) (r := r.drop h.toNat) HE.out)
      have HLe := Lib.hid hle
      have HK8 := Lib.hid (show h.toNat ≤ 8 by omega)
      clear HRd
      go_enter Tryz.func108, Tryz.ntmps108
      go_wp2_with fail
      refine take_loop h r h.toNat HLe.out HK8.out HTk.out _ _ ?_ _ _ _ _ _ _ _ _ _ _ _ _ _ _ _ _ _ _ _ _ _ _ _ _ _ _ _ _ _ _ _ _ _ _ _ _ _ _ _ _ _ _ _ _ _ _ _ _ _
      intro s1 s2 s3 s4 s7 s8 s9 s10 s11 s12 s13 s14 s15 s16 s17 s18 s19 s20 s21 s22 s23 s24 s25 s26 s27 s28 s29 s30 s31 s32 s33 s34 s35 s36 s37 s38 s39 s40 s41 s42 s43 s44 s45 s46 s47 s48 s49 s50 s51 s52
      have HF := Lib.hid (fun W => HP.out _ _ 0 W HE.out)
      clear HE HTk
      generalize valBE _ = v at HF ⊢
      go_wp2
      go_quiet (fail)
      go_wp2
      exact HF.out _ ⟨rfl, rfl, rfl, Nat.le_refl _, fun _ _ => rfl⟩
    have hz1 : (0 : Int) < (h.toNat : Int) := by omega
    have hjx : ∀ W, (Instr.index 9 (.string ⟨(h :: r).toArray⟩) (.int .i64 1)).run Tryz.prog W = .ok (.int .u8 ((r.getD 0 0).toNat : Int)) W := fun W => by
      have := run_byte (h :: r) 1 (by simp; omega) W
      rw [show (h :: r).getD 1 0 = r.getD 0 0 by simp [List.getD_eq_getElem?_getD]] at this
      exact this
    have hx256 := (r.getD 0 0).toNat_lt
    obtain ⟨x, hx⟩ : ∃ x, r.getD 0 0 = x := ⟨_, rfl⟩
    rw [hx] at hE hjx hx256
    clear hx
    by_cases hx0 : x = 0
    · have HE : Hid (numT (h :: r) = (0, [], 3)) := Lib.hid (by rw [hE, if_pos (.inl ⟨by omega, hx0⟩)])
      have hxz : ((x.toNat : Int) == 0) = true := by simp [hx0]
      clear hE h8 hlt hx0
      go_enter Tryz.func108, Tryz.ntmps108
      go_wp2
      exact HP.out 0 [] 3 _ HE.out (Below.refl _ _)
    have hxz : ((x.toNat : Int) == 0) = false := by
      simp; intro e; exact hx0 (UInt8.toNat_inj.1 e)
    by_cases h88 : h.toNat = 8
    · have h88I : ((h.toNat : Int) == 8) = true := by rw [beq_iff_eq]; omega
      by_cases h128 : 128 ≤ x.toNat
      · have HE : Hid (numT (h :: r) = (0, [], 3)) := Lib.hid (by rw [hE, if_pos (.inr ⟨h88, h128⟩)])
        have h9 : (127 : Int) < x.toNat := by omega
        clear hE h8 hlt hx0 h128 h88
        go_enter Tryz.func108, Tryz.ntmps108
        go_wp2
        exact HP.out 0 [] 3 _ HE.out (Below.refl _ _)
      · have HE : Hid (numT (h :: r) = (valBE (r.take h.toNat), r.drop h.toNat, 0)) := Lib.hid (by rw [hE, if_neg]; rintro (⟨_, q⟩ | ⟨_, q⟩); exact hx0 q; exact h128 q)
        have h9 : ((127 : Int) < x.toNat) = False := by simp; omega
        clear hE hlt hx0 h128 h88
        have HRd := Lib.hid (fun W => run_drop (h :: r) (h.toNat + 1) (by simp; omega) W)
        have hrd := HRd.out
        rw [show ((h.toNat + 1 : Nat) : Int) = (h.toNat : Int) + 1 by omega, List.drop_succ_cons] at hrd
        have HTk := Lib.hid (numT_lt (s := h :: r) (n := valBE (r.take h.toNat)) (r := r.drop h.toNat) HE.out)
        have HLe := Lib.hid hle
        have HK8 := Lib.hid (show h.toNat ≤ 8 by omega)
        clear HRd
        go_enter Tryz.func108, Tryz.ntmps108
        go_wp2_with fail
        refine take_loop h r h.toNat HLe.out HK8.out HTk.out _ _ ?_ _ _ _ _ _ _ _ _ _ _ _ _ _ _ _ _ _ _ _ _ _ _ _ _ _ _ _ _ _ _ _ _ _ _ _ _ _ _ _ _ _ _ _ _ _ _ _ _ _
        intro s1 s2 s3 s4 s7 s8 s9 s10 s11 s12 s13 s14 s15 s16 s17 s18 s19 s20 s21 s22 s23 s24 s25 s26 s27 s28 s29 s30 s31 s32 s33 s34 s35 s36 s37 s38 s39 s40 s41 s42 s43 s44 s45 s46 s47 s48 s49 s50 s51 s52
        have HF := Lib.hid (fun W => HP.out _ _ 0 W HE.out)
        clear HE HTk
        generalize valBE _ = v at HF ⊢
        go_wp2
        go_quiet (fail)
        go_wp2
        exact HF.out _ ⟨rfl, rfl, rfl, Nat.le_refl _, fun _ _ => rfl⟩
    · have h88I : ((h.toNat : Int) == 8) = false := by rw [beq_eq_false_iff_ne]; omega
      have HE : Hid (numT (h :: r) = (valBE (r.take h.toNat), r.drop h.toNat, 0)) := Lib.hid (by rw [hE, if_neg]; rintro (⟨_, q⟩ | ⟨q, _⟩); exact hx0 q; exact h88 q)
      clear hE hlt hx0
      have HRd := Lib.hid (fun W => run_drop (h :: r) (h.toNat + 1) (by simp; omega) W)
      have hrd := HRd.out
      rw [show ((h.toNat + 1 : Nat) : Int) = (h.toNat : Int) + 1 by omega, List.drop_succ_cons] at hrd
      have HTk := Lib.hid (numT_lt (s := h :: r) (n := valBE (r.take h.toNat)) (r := r.drop h.toNat) HE.out)
      have HLe := Lib.hid hle
      have HK8 := Lib.hid (show h.toNat ≤ 8 by omega)
      clear HRd
      go_enter Tryz.func108, Tryz.ntmps108
      go_wp2_with fail
      refine take_loop h r h.toNat HLe.out HK8.out HTk.out _ _ ?_ _ _ _ _ _ _ _ _ _ _ _ _ _ _ _ _ _ _ _ _ _ _ _ _ _ _ _ _ _ _ _ _ _ _ _ _ _ _ _ _ _ _ _ _ _ _ _ _ _
      intro s1 s2 s3 s4 s7 s8 s9 s10 s11 s12 s13 s14 s15 s16 s17 s18 s19 s20 s21 s22 s23 s24 s25 s26 s27 s28 s29 s30 s31 s32 s33 s34 s35 s36 s37 s38 s39 s40 s41 s42 s43 s44 s45 s46 s47 s48 s49 s50 s51 s52
      have HF := Lib.hid (fun W => HP.out _ _ 0 W HE.out)
      clear HE HTk
      generalize valBE _ = v at HF ⊢
      go_wp2
      go_quiet (fail)
      go_wp2
      exact HF.out _ ⟨rfl, rfl, rfl, Nat.le_refl _, fun _ _ => rfl⟩
end Go.Proofs.YtcjafcbekegmlaaGreatDoor

namespace Go.Proofs.YtcjafcbekegmlaaGreatDoor
set_option linter.unusedVariables false
open Go.RowKit Go.Instr
attribute [local go_sem] ba_get ByteArray.mk_append_mk
def RTextEnd (w : World) (r : List UInt8 × List UInt8 × Nat) (e : Ending) (w' : World) : Prop := e = .returned (.tuple #[.string ⟨r.1.toArray⟩, .string ⟨r.2.1.toArray⟩, .int .i64 (r.2.2 : Int)]) ∧ Below w.heap.size w w'
set_option maxRecDepth 100000 in
set_option maxHeartbeats 1000000 in
theorem ref02_text (s : List UInt8) (hs : s.length ≤ 1000000) (most : Nat) (hm : most ≤ 1000000) (w : World) :
    Calls Tryz.prog 109 #[.string ⟨s.toArray⟩, .int .i64 (most : Int)] w (RTextEnd w (txtT s most)) := by
  have HP : Hid (∀ (t rest : List UInt8) (c : Nat) w', txtT s most = (t, rest, c) → Below w.heap.size w w' → RTextEnd w (txtT s most) (.returned (.tuple #[.string ⟨t.toArray⟩, .string ⟨rest.toArray⟩, .int .i64 (c : Int)])) w') := Lib.hid (fun n rest c w' e h => by rw [e]; exact ⟨rfl, h⟩)
  have HX : Hid (txtT s most = if (numT s).2.2 ≠ 0 then ([], [], (numT s).2.2) else if most < (numT s).1 then ([], [], 2) else if (numT s).2.1.length < (numT s).1 then ([], [], 20)
    else ((numT s).2.1.take (numT s).1, (numT s).2.1.drop (numT s).1, 0)) := Lib.hid rfl
  have HN := Lib.hid (ref02_take s hs w)
  generalize RTextEnd w (txtT s most) = P at HP ⊢
  generalize txtT s most = X at HP HX
  generalize numT s = Y at *
  obtain ⟨n, rest, c⟩ := Y
  simp only at HX
  clear hs
  by_cases hc : c = 0
  · subst hc
    by_cases hmn : most < n
    · have HE : Hid (X = ([], [], 2)) := Lib.hid (by rw [HX.out, if_neg (by simp), if_pos hmn])
      have h1 : (most : Int) < (n : Int) := by omega
      clear HX hmn
      go_enter Tryz.func109, Tryz.ntmps109
      go_wp2_with fail
      refine HN.out.mono ?_
      rintro e w1 ⟨rfl, hb⟩
      have HB := Lib.hid hb
      clear hb
      go_wp2
      exact HP.out _ _ 2 _ HE.out HB.out
    · have h1 : ((most : Int) < (n : Int)) = False := by simp; omega
      by_cases hrn : rest.length < n
      · have HE : Hid (X = ([], [], 20)) := Lib.hid (by rw [HX.out, if_neg (by simp), if_neg hmn, if_pos hrn])
        have h2 : (rest.length : Int) < (n : Int) := by omega
        clear HX hmn hrn
        go_enter Tryz.func109, Tryz.ntmps109
        go_wp2_with fail
        refine HN.out.mono ?_
        rintro e w1 ⟨rfl, hb⟩
        have HB := Lib.hid hb
        clear hb
        go_wp2
        exact HP.out _ _ 20 _ HE.out HB.out
      · have HE : Hid (X = (rest.take n, rest.drop n, 0)) := Lib.hid (by rw [HX.out, if_neg (by simp), if_neg hmn, if_neg hrn])
        have h2 : ((rest.length : Int) < (n : Int)) = False := by simp; omega
        have t1 := run_take rest n (by omega)
        have t2 := run_drop rest n (by omega)
        clear HX hmn hrn
        generalize rest.take n = pc at *
        generalize rest.drop n = pd at *
        go_enter Tryz.func109, Tryz.ntmps109
        go_wp2_with fail
        refine HN.out.mono ?_
        rintro e w1 ⟨rfl, hb⟩
        have HB := Lib.hid hb
        clear hb
        go_wp2
        go_quiet (fail)
        go_wp2
        exact HP.out _ _ 0 _ HE.out ⟨HB.out.os, HB.out.tape, HB.out.output, HB.out.size, HB.out.block⟩
  · have HE : Hid (X = ([], [], c)) := Lib.hid (by rw [HX.out, if_pos hc])
    have hc1 : ((c : Int) != 0) = true := by simp; exact hc
    clear HX hc
    go_enter Tryz.func109, Tryz.ntmps109
    go_wp2_with fail
    refine HN.out.mono ?_
    rintro e w1 ⟨rfl, hb⟩
    have HB := Lib.hid hb
    clear hb
    go_wp2
    exact HP.out _ _ c _ HE.out HB.out
def RRd (w : World) (g : Nat) (s : List UInt8 × Nat) : Prop := Blk w g 124 #[.string ⟨s.1.toArray⟩, .int .i64 (s.2 : Int)] ∧ s.1.length ≤ 1000000
def RRdEnd (w : World) (g : Nat) (v : Value) (s : List UInt8 × Nat) (e : Ending) (w' : World) : Prop := e = .returned v ∧ RRd w' g s ∧ w.grownBy w' (some g)
theorem grown_of_below {a b c : World} {g : Nat} (h : Below a.heap.size a b) (hg : b.grownBy c (some g)) : a.grownBy c (some g) :=
  ⟨hg.os.trans h.os, hg.tape.trans h.tape, hg.output.trans h.output, Nat.le_trans h.size hg.size, fun k hk hne => (hg.block k (Nat.lt_of_lt_of_le hk h.size) hne).trans (h.block k hk)⟩
set_option maxRecDepth 100000 in
set_option maxHeartbeats 1000000 in
theorem ref02_Num (w : World) (g : Nat) (s : List UInt8 × Nat) (h : RRd w g s) :
    Calls Tryz.prog 74 #[.pointer (some ⟨g, 0, none⟩)] w (RRdEnd w g (.int .i64 ((numS s).1 : Int)) (numS s).2) := by
  obtain ⟨l, c⟩ := s
  obtain ⟨hB, hl⟩ := h
  simp only at hB hl
  have HP : Hid (∀ (n : Nat) s' w', numS (l, c) = (n, s') → RRd w' g s' → w.grownBy w' (some g) → RRdEnd w g (.int .i64 ((numS (l, c)).1 : Int)) (numS (l, c)).2 (.returned (.int .i64 (n : Int))) w') := Lib.hid (fun n s' w' e h1 h2 => by rw [e]; exact ⟨rfl, h1, h2⟩)
  generalize RRdEnd w g (.int .i64 ((numS (l, c)).1 : Int)) (numS (l, c)).2 = P at HP ⊢
  have HB := Lib.hid hB
  have HL := Lib.hid hl
  have c0 : w.cell? ⟨g, 0, none⟩ = some (.string ⟨l.toArray⟩) := hB.cell 0
  have c1 : w.cell? ⟨g, 1, none⟩ = some (.int .i64 (c : Int)) := hB.cell 1
  by_cases hc : c = 0
  · subst hc
    have HT := Lib.hid (ref02_take l hl w)
    have HS : Hid (numS (l, 0) = if (numT l).2.2 = 0 then ((numT l).1, ((numT l).2.1, 0)) else (0, (l, (numT l).2.2))) := Lib.hid (by simp [numS])
    have HLn : Hid ((numT l).2.1.length ≤ l.length) := Lib.hid (by
      cases l with
      | nil => simp [numT]
      | cons a b =>
        rw [numT_cons]
        split
        · simp
        split
        · simp
        split
        · simp
        · simp; omega)
    generalize numT l = Y at *
    obtain ⟨n, rest, e⟩ := Y
    simp only at HS HLn
    clear hB hl
    by_cases he : e = 0
    · subst he
      rw [if_pos rfl] at HS
      go_enter Tryz.func74, Tryz.ntmps74
      go_wp2_with fail
      refine HT.out.mono ?_
      rintro e w1 ⟨rfl, hb⟩
      have HB1 := Lib.hid (HB.out.below hb HB.out.lt)
      have HBl := Lib.hid hb
      have f0 : w1.frozen? ⟨g, 0, none⟩ = false := HB1.out.frozen 0
      have f1 : w1.frozen? ⟨g, 1, none⟩ = false := HB1.out.frozen 1
      have d0 : w1.cell? ⟨g, 0, none⟩ = some (.string ⟨l.toArray⟩) := HB1.out.cell 0
      have d1 : w1.cell? ⟨g, 1, none⟩ = some (.int .i64 0) := HB1.out.cell 1
      clear hb c0 c1
      go_wp2
      exact HP.out _ _ _ HS.out ⟨(HB1.out.set_ 1 (.int .i64 0)).set_ 0 (.string ⟨rest.toArray⟩), Nat.le_trans HLn.out HL.out⟩ (grown_of_below HBl.out (grown_set0 (grown_set0 (World.grownBy.refl _ _) _ _) _ _))
    · rw [if_neg he] at HS
      have he1 : ((e : Int) != 0) = true := by simp; exact he
      clear he
      go_enter Tryz.func74, Tryz.ntmps74
      go_wp2_with fail
      refine HT.out.mono ?_
      rintro e w1 ⟨rfl, hb⟩
      have HB1 := Lib.hid (HB.out.below hb HB.out.lt)
      have HBl := Lib.hid hb
      have f1 : w1.frozen? ⟨g, 1, none⟩ = false := HB1.out.frozen 1
      have d1 : w1.cell? ⟨g, 1, none⟩ = some (.int .i64 0) := HB1.out.cell 1
      clear hb c0 c1
      go_wp2
      exact HP.out 0 _ _ HS.out ⟨HB1.out.set_ 1 (.int .i64 (e : Int)), HL.out⟩ (grown_of_below HBl.out (grown_set0 (World.grownBy.refl _ _) _ _))
  · have HS : Hid (numS (l, c) = (0, (l, c))) := Lib.hid (by simp [numS, hc])
    have hc1 : ((c : Int) != 0) = true := by simp; exact hc
    clear hB hl hc
    go_enter Tryz.func74, Tryz.ntmps74
    go_wp2
    exact HP.out 0 _ _ HS.out ⟨HB.out, HL.out⟩ (World.grownBy.refl _ _)
set_option maxRecDepth 100000 in
set_option maxHeartbeats 1000000 in
theorem ref02_RText (w : World) (g : Nat) (s : List UInt8 × Nat) (h : RRd w g s) (most : Nat) (hm : most ≤ 1000000) :
    Calls Tryz.prog 75 #[.pointer (some ⟨g, 0, none⟩), .int .i64 (most : Int)] w (RRdEnd w g (.string ⟨(txtS s most).1.toArray⟩) (txtS s most).2) := by
  obtain ⟨l, c⟩ := s
  obtain ⟨hB, hl⟩ := h
  simp only at hB hl
  have HP : Hid (∀ (t : List UInt8) s' w', txtS (l, c) most = (t, s') → RRd w' g s' → w.grownBy w' (some g) → RRdEnd w g (.string ⟨(txtS (l, c) most).1.toArray⟩) (txtS (l, c) most).2 (.returned (.string ⟨t.toArray⟩)) w') := Lib.hid (fun n s' w' e h1 h2 => by rw [e]; exact ⟨rfl, h1, h2⟩)
  generalize RRdEnd w g (.string ⟨(txtS (l, c) most).1.toArray⟩) (txtS (l, c) most).2 = P at HP ⊢
  have HB := Lib.hid hB
  have HL := Lib.hid hl
  have c0 : w.cell? ⟨g, 0, none⟩ = some (.string ⟨l.toArray⟩) := hB.cell 0
  have c1 : w.cell? ⟨g, 1, none⟩ = some (.int .i64 (c : Int)) := hB.cell 1
  by_cases hc : c = 0
  · subst hc
    have HT := Lib.hid (ref02_text l hl most hm w)
    have HS : Hid (txtS (l, 0) most = if (txtT l most).2.2 = 0 then ((txtT l most).1, ((txtT l most).2.1, 0)) else ([], (l, (txtT l most).2.2))) := Lib.hid (by simp [txtS])
    have HLn : Hid ((txtT l most).2.1.length ≤ l.length) := Lib.hid (by
      by_cases h0 : (txtT l most).2.2 = 0
      · have := (txtT_back (s := l) (t := (txtT l most).1) (r := (txtT l most).2.1) (m := most) (by rw [← h0])).1
        have := congrArg List.length this
        rw [List.length_append] at this
        omega
      · have : (txtT l most).2.1 = [] := by
          unfold txtT at h0 ⊢
          split
          · rfl
          split
          · rfl
          split
          · rfl
          · rename_i a1 a2 a3
            rw [if_neg a1, if_neg a2, if_neg a3] at h0
            exact absurd rfl h0
        rw [this]; simp)
    generalize txtT l most = Y at *
    obtain ⟨n, rest, e⟩ := Y
    simp only at HS HLn
    clear hB hl
    by_cases he : e = 0
    · subst he
      rw [if_pos rfl] at HS
      go_enter Tryz.func75, Tryz.ntmps75
      go_wp2_with fail
      refine HT.out.mono ?_
      rintro e w1 ⟨rfl, hb⟩
      have HB1 := Lib.hid (HB.out.below hb HB.out.lt)
      have HBl := Lib.hid hb
      have f0 : w1.frozen? ⟨g, 0, none⟩ = false := HB1.out.frozen 0
      have f1 : w1.frozen? ⟨g, 1, none⟩ = false := HB1.out.frozen 1
      have d0 : w1.cell? ⟨g, 0, none⟩ = some (.string ⟨l.toArray⟩) := HB1.out.cell 0
      have d1 : w1.cell? ⟨g, 1, none⟩ = some (.int .i64 0) := HB1.out.cell 1
      clear hb c0 c1
      go_wp2
      exact HP.out _ _ _ HS.out ⟨(HB1.out.set_ 1 (.int .i64 0)).set_ 0 (.string ⟨rest.toArray⟩), Nat.le_trans HLn.out HL.out⟩ (grown_of_below HBl.out (grown_set0 (grown_set0 (World.grownBy.refl _ _) _ _) _ _))
    · rw [if_neg he] at HS
      have he1 : ((e : Int) != 0) = true := by simp; exact he
      clear he
      go_enter Tryz.func75, Tryz.ntmps75
      go_wp2_with fail
      refine HT.out.mono ?_
      rintro e w1 ⟨rfl, hb⟩
      have HB1 := Lib.hid (HB.out.below hb HB.out.lt)
      have HBl := Lib.hid hb
      have f1 : w1.frozen? ⟨g, 1, none⟩ = false := HB1.out.frozen 1
      have d1 : w1.cell? ⟨g, 1, none⟩ = some (.int .i64 0) := HB1.out.cell 1
      clear hb c0 c1
      go_wp2
      exact HP.out [] _ _ HS.out ⟨HB1.out.set_ 1 (.int .i64 (e : Int)), HL.out⟩ (grown_of_below HBl.out (grown_set0 (World.grownBy.refl _ _) _ _))
  · have HS : Hid (txtS (l, c) most = ([], (l, c))) := Lib.hid (by simp [txtS, hc])
    have hc1 : ((c : Int) != 0) = true := by simp; exact hc
    clear hB hl hc
    go_enter Tryz.func75, Tryz.ntmps75
    go_wp2
    exact HP.out [] _ _ HS.out ⟨HB.out, HL.out⟩ (World.grownBy.refl _ _)
end Go.Proofs.YtcjafcbekegmlaaGreatDoor
