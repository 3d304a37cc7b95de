import Derived.Test.YtefcmigbdfeaiaaDoorJ47
import Derived.Deep.DeepCutAuto
import Derived.Test.YtefcmigbdfeaiaaDoorJ46
import Derived.Test.YtefcmigbdfeaiaaDoorJ16
import Derived.Test.YtefcmigbdfeaiaaDoorJ19
import Derived.Test.YtefcmigbdfeaiaaDoorJ26
set_option linter.unusedSimpArgs false
set_option linter.unusedVariables false
/- The walks of layer 8 (node): Decode. No conditions. -/
namespace Go.Proofs.YtefcmigbdfeaiaaDoor
set_option linter.unusedVariables false
open Go.RowKit Go.Instr
attribute [local go_sem] ba_get ByteArray.mk_append_mk
def DecNEnd (w : World) (r : Nd × Nat) (e : Ending) (w' : World) : Prop := e = .returned (.tuple #[.agg (nodeV r.1.1 r.1.2.1 r.1.2.2.1 r.1.2.2.2).toArray, .int .i64 (r.2 : Int)]) ∧ Below w.heap.size w w'
theorem kidsR_short (set : Nat) : ∀ n s, ∀ x ∈ (kidsR set n s).1, x.length ≤ 32
  | 0, s, x, h => by simp [kidsR] at h
  | n + 1, s, x, h => by
    simp only [kidsR, List.mem_cons] at h
    rcases h with rfl | h
    · unfold kidR
      split
      · rcases bytesS_len s 32 with h | h
        · rw [h]; exact Nat.zero_le _
        · omega
      · exact Nat.zero_le _
    · exact kidsR_short set n _ x h
theorem zeroK_short : ∀ x ∈ zeroK, x.length ≤ 32 := by intro x h; rw [List.eq_of_mem_replicate h]; exact Nat.zero_le _
/-- what is read is short -/
theorem readN_short (most : Nat) (hm : most ≤ 1000) (s : List UInt8) : (readN most s).1.2.1.length ≤ 2000 ∧ (readN most s).1.2.2.1.length ≤ 32 ∧ (readN most s).1.2.2.2.length = 16 ∧ ∀ x ∈ (readN most s).1.2.2.2, x.length ≤ 32 := by
  unfold readN
  split
  · refine ⟨Nat.zero_le _, ?_, ?_, ?_⟩
    · unfold brR
      split
      · exact Nat.zero_le _
      · exact txtS_most _ _
    · unfold brR
      split
      · rfl
      · exact kidsR_length _ _ _
    · unfold brR
      split
      · exact zeroK_short
      · exact kidsR_short _ _ _
  · unfold otR
    split
    · refine ⟨?_, txtS_most _ _, rfl, zeroK_short⟩
      have h1 := Nib.unpack_length (txtS (bytesS (s, 0) 1).2 most).1
      have h2 := txtS_most (bytesS (s, 0) 1).2 most
      show (Nib.unpack _).1.length ≤ 2000
      omega
    · refine ⟨?_, Nat.zero_le _, rfl, ?_⟩
      · have h1 := Nib.unpack_length (txtS (bytesS (s, 0) 1).2 most).1
        have h2 := txtS_most (bytesS (s, 0) 1).2 most
        show (Nib.unpack _).1.length ≤ 2000
        omega
      · intro x hx
        rcases List.mem_cons.1 hx with rfl | hx
        · rcases bytesS_len (txtS (bytesS (s, 0) 1).2 most).2 32 with h | h
          · rw [h]; exact Nat.zero_le _
          · omega
        · rw [List.eq_of_mem_replicate hx]; exact Nat.zero_le _
theorem readN_3 (most : Nat) (s : List UInt8) (h : kindR s = 3) : readN most s = ((3, [], (brR (bytesS (s, 0) 1).2).1.1, (brR (bytesS (s, 0) 1).2).1.2), (brR (bytesS (s, 0) 1).2).2, true) := by unfold readN; rw [if_pos h]
theorem readN_o (most : Nat) (s : List UInt8) (h : kindR s ≠ 3) : readN most s = ((kindR s, (otR most (kindR s) (bytesS (s, 0) 1).2).1), (otR most (kindR s) (bytesS (s, 0) 1).2).2) := by unfold readN; rw [if_neg h]
theorem decN_eq (s : List UInt8) : decN s = if endS (readN 16 s).2.1 ≠ 0 ∨ (readN 16 s).2.2 = false ∨ fineD (readN 16 s).1 = false then (zeroN, 80) else ((readN 16 s).1, 0) := rfl
theorem Live.one {w W : World} {g t : Nat} {cs : Array Value} (hb : Below w.heap.size w W) (hg : w.heap.size ≤ g) (h : Blk W g t cs) : Live w W [(g, t, cs)] :=
  ⟨hb, fun x hx => by rw [List.mem_singleton] at hx; subst hx; exact ⟨hg, h⟩, List.pairwise_singleton _ _⟩
theorem nodeV_one (k : Nat) (p v : List UInt8) (K : List (List UInt8)) : (nodeV k p v K).toArray.all (·.oneCell') = true := by
  refine all_oneCell_toArray fun u hu => ?_
  unfold nodeV at hu
  simp only [List.mem_cons] at hu
  rcases hu with rfl | rfl | rfl | hu
  · rfl
  · rfl
  · rfl
  · exact strv_one _ _ hu
theorem Blk.range0 {w : World} {g t : Nat} {cs : List Value} (h : Blk w g t cs.toArray) : w.rangeAt g 0 cs := fun j u hu => by rw [Nat.zero_add]; exact (h.cell j).trans (by simpa using hu)
theorem Blk.there0 {w : World} {g t : Nat} {cs : Array Value} (h : Blk w g t cs) (n : Nat) (hn : n ≤ cs.size) : w.there g 0 n := fun j hj => by
  rw [Nat.zero_add]
  refine ⟨?_, h.frozen j⟩
  rw [h.cell, Array.getElem?_eq_getElem (by omega)]; rfl
theorem results_cell2 {P : Program} {fn : Func} {tmps : Array Value} {w : World} {a b : Tmp} {t : TypeId} {p : Addr} {v u : Value} (hr : fn.results = #[.cell a t, .tmp b]) (ha : tmps.getD a undef = .pointer (some p)) (hv : (loadVar t p).run P w = .ok v w) (hb : tmps.getD b undef = u) :
    (results fn tmps).run P w = .ok (.tuple #[v, u]) w := by
  unfold results
  rw [hr]
  rw [Array.getD_eq_getD_getElem?] at ha hb
  simp [Sem.run_bind, ha, hv, hb, asAddr]
theorem zeros_eq : (#[.int .i64 0, .string ⟨#[]⟩, .string ⟨#[]⟩, .string ⟨#[]⟩, .string ⟨#[]⟩, .string ⟨#[]⟩, .string ⟨#[]⟩, .string ⟨#[]⟩, .string ⟨#[]⟩, .string ⟨#[]⟩, .string ⟨#[]⟩, .string ⟨#[]⟩, .string ⟨#[]⟩, .string ⟨#[]⟩, .string ⟨#[]⟩, .string ⟨#[]⟩, .string ⟨#[]⟩, .string ⟨#[]⟩, .string ⟨#[]⟩] : Array Value) = (nodeV 0 [] [] zeroK).toArray := rfl
/- the refusal: the result stays as it was made -/
set_option maxRecDepth 100000 in
set_option maxHeartbeats 2000000 in
theorem node_Decode (w : World) (s : List UInt8) (hs : s.length ≤ 1000000) :
    Calls Tryd.prog 95 #[.string ⟨s.toArray⟩] w (DecNEnd w (decN s)) := by
  have HP : Hid (∀ w' n (c : Nat), decN s = (n, c) → Below w.heap.size w w' → DecNEnd w (decN s) (.returned (.tuple #[.agg (nodeV n.1 n.2.1 n.2.2.1 n.2.2.2).toArray, .int .i64 (c : Int)])) w') := Lib.hid (fun w' n c e h => by rw [e]; exact ⟨rfl, h⟩)
  generalize DecNEnd w (decN s) = P at HP ⊢
  have HX := Lib.hid (decN_eq s)
  have HS := Lib.hid (readN_short 16 (by omega) s)
  have H3 := Lib.hid (readN_3 16 s)
  have HO := Lib.hid (readN_o 16 s)
  have HL := Lib.hid hs
  clear hs
  go_enter Tryd.func95, Tryd.ntmps95
  go_upto_region 1 with fail
  obtain ⟨rb, hrb⟩ : ∃ rb, w.heap.size = rb := ⟨_, rfl⟩
  have b1 : Hid (Blk (w.alloc (.cells #[.int .i64 0, .string ⟨#[]⟩, .string ⟨#[]⟩, .string ⟨#[]⟩, .string ⟨#[]⟩, .string ⟨#[]⟩, .string ⟨#[]⟩, .string ⟨#[]⟩, .string ⟨#[]⟩, .string ⟨#[]⟩, .string ⟨#[]⟩, .string ⟨#[]⟩, .string ⟨#[]⟩, .string ⟨#[]⟩, .string ⟨#[]⟩, .string ⟨#[]⟩, .string ⟨#[]⟩, .string ⟨#[]⟩, .string ⟨#[]⟩] 91)) rb 91 #[.int .i64 0, .string ⟨#[]⟩, .string ⟨#[]⟩, .string ⟨#[]⟩, .string ⟨#[]⟩, .string ⟨#[]⟩, .string ⟨#[]⟩, .string ⟨#[]⟩, .string ⟨#[]⟩, .string ⟨#[]⟩, .string ⟨#[]⟩, .string ⟨#[]⟩, .string ⟨#[]⟩, .string ⟨#[]⟩, .string ⟨#[]⟩, .string ⟨#[]⟩, .string ⟨#[]⟩, .string ⟨#[]⟩, .string ⟨#[]⟩] ∧ Below w.heap.size w (w.alloc (.cells #[.int .i64 0, .string ⟨#[]⟩, .string ⟨#[]⟩, .string ⟨#[]⟩, .string ⟨#[]⟩, .string ⟨#[]⟩, .string ⟨#[]⟩, .string ⟨#[]⟩, .string ⟨#[]⟩, .string ⟨#[]⟩, .string ⟨#[]⟩, .string ⟨#[]⟩, .string ⟨#[]⟩, .string ⟨#[]⟩, .string ⟨#[]⟩, .string ⟨#[]⟩, .string ⟨#[]⟩, .string ⟨#[]⟩, .string ⟨#[]⟩] 91)) ∧ w.heap.size ≤ rb) := Lib.hid (by subst hrb; exact ⟨Blk.new w _ _, by go_grown, Nat.le_refl _⟩)
  rw [hrb]
  generalize w.alloc (.cells #[.int .i64 0, .string ⟨#[]⟩, .string ⟨#[]⟩, .string ⟨#[]⟩, .string ⟨#[]⟩, .string ⟨#[]⟩, .string ⟨#[]⟩, .string ⟨#[]⟩, .string ⟨#[]⟩, .string ⟨#[]⟩, .string ⟨#[]⟩, .string ⟨#[]⟩, .string ⟨#[]⟩, .string ⟨#[]⟩, .string ⟨#[]⟩, .string ⟨#[]⟩, .string ⟨#[]⟩, .string ⟨#[]⟩, .string ⟨#[]⟩] 91) = W1 at b1 ⊢
  clear hrb
  go_upto_region 3 with (go_at_call 100; refine (code_Read s _).mono ?_; rintro e w2 ⟨rfl, rfl⟩)
  have N0 : Hid (RdNd W1 ((W1.alloc (.cells #[.string ⟨s.toArray⟩, .int .i64 0, .int .i64 0] 167)).alloc (.cells #[.int .i64 0, .string ⟨#[]⟩, .string ⟨#[]⟩, .string ⟨#[]⟩, .string ⟨#[]⟩, .string ⟨#[]⟩, .string ⟨#[]⟩, .string ⟨#[]⟩, .string ⟨#[]⟩, .string ⟨#[]⟩, .string ⟨#[]⟩, .string ⟨#[]⟩, .string ⟨#[]⟩, .string ⟨#[]⟩, .string ⟨#[]⟩, .string ⟨#[]⟩, .string ⟨#[]⟩, .string ⟨#[]⟩, .string ⟨#[]⟩] 91)) W1.heap.size (W1.heap.size + 1) (s, 0) zeroN) := Lib.hid ⟨⟨s, 0, (Blk.new W1 _ _).alloc _, Nat.zero_le _, HL.out, rfl⟩, by have := Blk.new (W1.alloc (.cells #[.string ⟨s.toArray⟩, .int .i64 0, .int .i64 0] 167)) 91 #[.int .i64 0, .string ⟨#[]⟩, .string ⟨#[]⟩, .string ⟨#[]⟩, .string ⟨#[]⟩, .string ⟨#[]⟩, .string ⟨#[]⟩, .string ⟨#[]⟩, .string ⟨#[]⟩, .string ⟨#[]⟩, .string ⟨#[]⟩, .string ⟨#[]⟩, .string ⟨#[]⟩, .string ⟨#[]⟩, .string ⟨#[]⟩, .string ⟨#[]⟩, .string ⟨#[]⟩, .string ⟨#[]⟩, .string ⟨#[]⟩]; rw [World.size_alloc] at this; exact this, by omega, Nat.le_refl _, by omega, by go_grown⟩
  generalize ((W1.alloc (.cells #[.string ⟨s.toArray⟩, .int .i64 0, .int .i64 0] 167)).alloc (.cells #[.int .i64 0, .string ⟨#[]⟩, .string ⟨#[]⟩, .string ⟨#[]⟩, .string ⟨#[]⟩, .string ⟨#[]⟩, .string ⟨#[]⟩, .string ⟨#[]⟩, .string ⟨#[]⟩, .string ⟨#[]⟩, .string ⟨#[]⟩, .string ⟨#[]⟩, .string ⟨#[]⟩, .string ⟨#[]⟩, .string ⟨#[]⟩, .string ⟨#[]⟩, .string ⟨#[]⟩, .string ⟨#[]⟩, .string ⟨#[]⟩] 91)) = W3 at N0 ⊢
  generalize W1.heap.size + 1 = nb at N0 ⊢
  generalize W1.heap.size = g at N0 ⊢
  have HBy := Lib.hid (code_RBytes W3 g (s, 0) N0.out.rd 1 (by omega))
  have hkd : (s = [] ∧ (bytesS (s, 0) 1).1 = []) ∨ ∃ c r, s = c :: r ∧ (bytesS (s, 0) 1).1 = [c] := by
    cases s with
    | nil => exact .inl ⟨rfl, rfl⟩
    | cons c r => exact .inr ⟨c, r, rfl, by unfold bytesS; simp⟩
  generalize bytesS (s, 0) 1 = br at *
  obtain ⟨kd, s1⟩ := br
  simp only at HBy hkd H3 HO
  have HKD := Lib.hid hkd
  clear hkd
  go_wp2_with fail
  refine HBy.out.mono ?_
  rintro e w2 ⟨rfl, h1, h2⟩
  have N1 : Hid (RdNd W1 w2 g nb s1 zeroN) := Lib.hid (N0.out.read h1 h2)
  clear h1 h2 HBy N0
  go_upto_if 13 with fail
  go_cut [] (fun wx => RdNd W1 wx g nb s1 (kindR s, [], [], zeroK))
  case first =>
    rcases HKD.out with ⟨e1, e2⟩ | ⟨c, r, e1, e2⟩
    · subst e2
      have hkr : kindR s = 0 := by rw [e1]; rfl
      have HF : Hid (RdNd W1 w2 g nb s1 (kindR s, [], [], zeroK)) := Lib.hid (by rw [hkr]; exact N1.out)
      clear e1 hkr HKD
      go_wp2_with fail
      go_meet
      exact HF.out
    · subst e2
      have hkr : kindR s = c.toNat := by rw [e1]; rfl
      have HR := Lib.hid hkr
      have hw : wrap64 (c.toNat : Int) = (c.toNat : Int) := IntWalk.wrap64_in _ (by have := c.toNat_lt; constructor <;> omega)
      have k0 : w2.cell? ⟨nb, 0, none⟩ = some (.int .i64 0) := N1.out.at0.1
      have f0 : w2.frozen? ⟨nb, 0, none⟩ = false := N1.out.nd.frozen 0
      clear e1 hkr HKD
      go_wp2_with fail
      go_meet
      rw [HR.out]
      exact N1.out.write 0 _ rfl
  case rest =>
  have N2 := Lib.hid hcut
  clear hcut N1 HKD
  generalize hkk : kindR s = kk at *
  clear hkk
  have k0 : wc.cell? ⟨nb, 0, none⟩ = some (.int .i64 (kk : Int)) := N2.out.at0.1
  go_upto_if 20 with fail
  go_cut [7] (fun s7 wx => ∃ n st b, s7 = .bool b ∧ readN 16 s = (n, st, b) ∧ RdNd W1 wx g nb st n)
  case first =>
    by_cases hk : kk = 3
    · subst hk
      have e := H3.out rfl
      have HB := Lib.hid (node_branch W1 wc g nb s1 N2.out)
      generalize brR s1 = B at e HB
      obtain ⟨⟨nv, nK⟩, st⟩ := B
      simp only at e HB
      have HE := Lib.hid e
      clear e k0 H3 HO N2 HX HS
      go_wp2_with fail
      refine HB.out.mono ?_
      rintro e w4 ⟨rfl, n4⟩
      have N4 := Lib.hid n4
      clear n4
      go_wp2_with fail
      go_meet
      exact ⟨_, _, _, rfl, HE.out, N4.out⟩
    · have e := HO.out hk
      have hkI : ((kk : Int) == 3) = false := by simp; omega
      have HB := Lib.hid (node_other W1 wc g nb kk s1 N2.out)
      generalize otR 16 kk s1 = B at e HB
      obtain ⟨⟨np, nv, nK⟩, st, fb⟩ := B
      simp only at e HB
      have HE := Lib.hid e
      clear e hk k0 H3 HO N2 HX HS
      go_wp2_with fail
      refine HB.out.mono ?_
      rintro e w4 ⟨rfl, n4⟩
      have N4 := Lib.hid n4
      clear n4
      go_wp2_with fail
      go_meet
      exact ⟨_, _, _, rfl, HE.out, N4.out⟩
  case rest =>
  obtain ⟨⟨k, p, v, K⟩, st, fb, h7, e, n4⟩ := hcut
  subst h7
  rw [e] at HX HS
  simp only at HX HS
  have N4 := Lib.hid n4
  clear k0 N2 H3 HO e n4
  have HEn := Lib.hid (code_REnd wc g st N4.out.rd)
  generalize hen : endS st = en at HX HEn
  clear hen
  go_upto_region 10 with fail
  by_cases he : en = 0
  · subst he
    cases fb with
    | false =>
      have HE : Hid (decN s = (zeroN, 80)) := Lib.hid (by rw [HX.out, if_pos (.inr (.inl rfl))])
      clear HX
      go_wp2_with fail
      refine HEn.out.mono ?_
      rintro e w5 ⟨rfl, h5, h6⟩
      have N5 := Lib.hid (N4.out.read h5 h6)
      clear h5 h6
      have F5 : Hid (Live w w5 [(rb, 91, #[.int .i64 0, .string ⟨#[]⟩, .string ⟨#[]⟩, .string ⟨#[]⟩, .string ⟨#[]⟩, .string ⟨#[]⟩, .string ⟨#[]⟩, .string ⟨#[]⟩, .string ⟨#[]⟩, .string ⟨#[]⟩, .string ⟨#[]⟩, .string ⟨#[]⟩, .string ⟨#[]⟩, .string ⟨#[]⟩, .string ⟨#[]⟩, .string ⟨#[]⟩, .string ⟨#[]⟩, .string ⟨#[]⟩, .string ⟨#[]⟩])]) := Lib.hid (Live.one (b1.out.2.1.nxt N5.out.b) b1.out.2.2 (b1.out.1.below N5.out.b b1.out.1.lt))
      have TH := F5.out.there 0 19 rfl (by decide)
      have HON : (#[.int .i64 0, .string ⟨#[]⟩, .string ⟨#[]⟩, .string ⟨#[]⟩, .string ⟨#[]⟩, .string ⟨#[]⟩, .string ⟨#[]⟩, .string ⟨#[]⟩, .string ⟨#[]⟩, .string ⟨#[]⟩, .string ⟨#[]⟩, .string ⟨#[]⟩, .string ⟨#[]⟩, .string ⟨#[]⟩, .string ⟨#[]⟩, .string ⟨#[]⟩, .string ⟨#[]⟩, .string ⟨#[]⟩, .string ⟨#[]⟩] : Array Value).all (·.oneCell') = true := by rw [zeros_eq]; exact nodeV_one _ _ _ _
      go_wp2_with (first | ((with_reducible refine at_op 37 ?_); refine wpList_build_eq rfl 91 _ rfl #[.int .i64 0, .string ⟨#[]⟩, .string ⟨#[]⟩, .string ⟨#[]⟩, .string ⟨#[]⟩, .string ⟨#[]⟩, .string ⟨#[]⟩, .string ⟨#[]⟩, .string ⟨#[]⟩, .string ⟨#[]⟩, .string ⟨#[]⟩, .string ⟨#[]⟩, .string ⟨#[]⟩, .string ⟨#[]⟩, .string ⟨#[]⟩, .string ⟨#[]⟩, .string ⟨#[]⟩, .string ⟨#[]⟩, .string ⟨#[]⟩] (by simp only [List.map_toArray, List.map_cons, List.map_nil]; kernel_rfl) ?_) | ((with_reducible refine at_put 37 ?_); refine wpList_store_mid rfl 91 _ _ rfl rb 0 #[.int .i64 0, .string ⟨#[]⟩, .string ⟨#[]⟩, .string ⟨#[]⟩, .string ⟨#[]⟩, .string ⟨#[]⟩, .string ⟨#[]⟩, .string ⟨#[]⟩, .string ⟨#[]⟩, .string ⟨#[]⟩, .string ⟨#[]⟩, .string ⟨#[]⟩, .string ⟨#[]⟩, .string ⟨#[]⟩, .string ⟨#[]⟩, .string ⟨#[]⟩, .string ⟨#[]⟩, .string ⟨#[]⟩, .string ⟨#[]⟩] rfl rfl TH info_node HON ?_; have F6 := Live.hall F5 0 (#[.int .i64 0, .string ⟨#[]⟩, .string ⟨#[]⟩, .string ⟨#[]⟩, .string ⟨#[]⟩, .string ⟨#[]⟩, .string ⟨#[]⟩, .string ⟨#[]⟩, .string ⟨#[]⟩, .string ⟨#[]⟩, .string ⟨#[]⟩, .string ⟨#[]⟩, .string ⟨#[]⟩, .string ⟨#[]⟩, .string ⟨#[]⟩, .string ⟨#[]⟩, .string ⟨#[]⟩, .string ⟨#[]⟩, .string ⟨#[]⟩] : Array Value).toList rfl rfl; generalize World.setCells _ rb 0 _ = W6 at F6 ⊢; have ld : (loadVar 91 ⟨rb, 0, none⟩).run Tryd.prog W6 = .ok (.agg #[.int .i64 0, .string ⟨#[]⟩, .string ⟨#[]⟩, .string ⟨#[]⟩, .string ⟨#[]⟩, .string ⟨#[]⟩, .string ⟨#[]⟩, .string ⟨#[]⟩, .string ⟨#[]⟩, .string ⟨#[]⟩, .string ⟨#[]⟩, .string ⟨#[]⟩, .string ⟨#[]⟩, .string ⟨#[]⟩, .string ⟨#[]⟩, .string ⟨#[]⟩, .string ⟨#[]⟩, .string ⟨#[]⟩, .string ⟨#[]⟩]) W6 := run_loadVar_mid (P := Tryd.prog) W6 rb 0 91 (#[.int .i64 0, .string ⟨#[]⟩, .string ⟨#[]⟩, .string ⟨#[]⟩, .string ⟨#[]⟩, .string ⟨#[]⟩, .string ⟨#[]⟩, .string ⟨#[]⟩, .string ⟨#[]⟩, .string ⟨#[]⟩, .string ⟨#[]⟩, .string ⟨#[]⟩, .string ⟨#[]⟩, .string ⟨#[]⟩, .string ⟨#[]⟩, .string ⟨#[]⟩, .string ⟨#[]⟩, .string ⟨#[]⟩, .string ⟨#[]⟩] : Array Value).toList _ (Blk.range0 (F6.out.blk 0 rfl)) Tryd.underlying91 rfl info_node; clear TH))
      have HF : P (.returned (.tuple #[.agg #[.int .i64 0, .string ⟨#[]⟩, .string ⟨#[]⟩, .string ⟨#[]⟩, .string ⟨#[]⟩, .string ⟨#[]⟩, .string ⟨#[]⟩, .string ⟨#[]⟩, .string ⟨#[]⟩, .string ⟨#[]⟩, .string ⟨#[]⟩, .string ⟨#[]⟩, .string ⟨#[]⟩, .string ⟨#[]⟩, .string ⟨#[]⟩, .string ⟨#[]⟩, .string ⟨#[]⟩, .string ⟨#[]⟩, .string ⟨#[]⟩], .int .i64 80])) W6 := HP.out W6 zeroN 80 HE.out F6.out.b
      exact ⟨rfl, _, results_cell2 rfl rfl ld rfl, HF⟩
    | true =>
      have HC := Lib.hid (node_Check k p v (by have := HS.out.1; omega) (by have := HS.out.2.1; omega) K HS.out.2.2.1 (fun x hx => by have := HS.out.2.2.2 x hx; omega))
      have HF : Hid (fineN k p v K = fineD (k, p, v, K)) := Lib.hid rfl
      rw [HF.out] at HC
      have SZ : (Tryd.prog.info? 91).map (·.size) = some (nodeV k p v K).length := by rw [nodeV_size HS.out.2.2.1]; exact info_node
      have HON := nodeV_one k p v K
      have HSz := Lib.hid (nodeV_size (k := k) (p := p) (v := v) HS.out.2.2.1)
      have HEq : Hid (∀ w' (c : Nat), decN s = ((k, p, v, K), c) → Below w.heap.size w w' → P (.returned (.tuple #[.agg (nodeV k p v K).toArray, .int .i64 (c : Int)])) w') := Lib.hid (fun w' c e h => HP.out w' (k, p, v, K) c e h)
      go_wp2_with fail
      refine HEn.out.mono ?_
      rintro e w5 ⟨rfl, h5, h6⟩
      have N5 := Lib.hid (N4.out.read h5 h6)
      have B5 : Hid (Blk w5 nb 91 (nodeV k p v K).toArray) := Lib.hid N5.out.nd
      clear h5 h6
      have HE : Hid (decN s = if fineD (k, p, v, K) = true then ((k, p, v, K), 0) else (zeroN, 80)) := Lib.hid (by
        rw [HX.out]
        cases fineD (k, p, v, K) <;> simp)
      clear HX HF
      generalize nodeV k p v K = NV at *
      have RA := Blk.range0 B5.out
      cases hfd : fineD (k, p, v, K) with
      | true =>
        rw [hfd, if_pos rfl] at HE
        rw [hfd] at HC
        clear hfd
        go_wp2_with (first | ((with_reducible refine at_op 33 ?_); refine wpList_load_want (by rfl) 91 _ rfl nb 0 rfl _ _ RA Tryd.underlying91 rfl SZ ?_) | fail)
        refine (HC.out _).mono ?_
        rintro e w6 ⟨rfl, hb6⟩
        have N6 := Lib.hid (N5.out.b.nxt hb6)
        have B6 := Lib.hid (B5.out.below hb6 B5.out.lt)
        have F6 : Hid (Live w w6 [(rb, 91, #[.int .i64 0, .string ⟨#[]⟩, .string ⟨#[]⟩, .string ⟨#[]⟩, .string ⟨#[]⟩, .string ⟨#[]⟩, .string ⟨#[]⟩, .string ⟨#[]⟩, .string ⟨#[]⟩, .string ⟨#[]⟩, .string ⟨#[]⟩, .string ⟨#[]⟩, .string ⟨#[]⟩, .string ⟨#[]⟩, .string ⟨#[]⟩, .string ⟨#[]⟩, .string ⟨#[]⟩, .string ⟨#[]⟩, .string ⟨#[]⟩])]) := Lib.hid (Live.one (b1.out.2.1.nxt N6.out) b1.out.2.2 (b1.out.1.below N6.out b1.out.1.lt))
        have TH : w6.there rb 0 NV.toArray.size := by
          rw [show NV.toArray.size = 19 by rw [List.size_toArray]; exact HSz.out]
          exact F6.out.there 0 19 rfl (by decide)
        have SZ2 : (Tryd.prog.info? 91).map (·.size) = some NV.toArray.size := by rw [List.size_toArray]; exact SZ
        have RA6 := Blk.range0 B6.out
        clear RA hb6
        go_wp2_with (first | ((with_reducible refine at_op 38 ?_); refine wpList_load_want (by rfl) 91 _ rfl nb 0 rfl _ _ RA6 Tryd.underlying91 rfl SZ ?_) | ((with_reducible refine at_put 38 ?_); refine wpList_store_mid rfl 91 _ _ rfl rb 0 NV.toArray rfl rfl TH SZ2 HON ?_; have F7 := Live.hall F6 0 NV.toArray.toList rfl HSz.out.symm; generalize World.setCells _ rb 0 _ = W7 at F7 ⊢; have ld := run_loadVar_mid (P := Tryd.prog) W7 rb 0 91 NV.toArray.toList _ (Blk.range0 (F7.out.blk 0 rfl)) Tryd.underlying91 rfl SZ; clear TH SZ2))
        have HF := HEq.out W7 0 HE.out F7.out.b
        exact ⟨rfl, _, results_cell2 rfl rfl ld rfl, HF⟩
      | false =>
        rw [hfd, if_neg (by decide)] at HE
        rw [hfd] at HC
        clear hfd
        go_wp2_with (first | ((with_reducible refine at_op 33 ?_); refine wpList_load_want (by rfl) 91 _ rfl nb 0 rfl _ _ RA Tryd.underlying91 rfl SZ ?_) | fail)
        refine (HC.out _).mono ?_
        rintro e w6 ⟨rfl, hb6⟩
        have N6 := Lib.hid (N5.out.b.nxt hb6)
        clear RA hb6 HON
        have F5 : Hid (Live w w6 [(rb, 91, #[.int .i64 0, .string ⟨#[]⟩, .string ⟨#[]⟩, .string ⟨#[]⟩, .string ⟨#[]⟩, .string ⟨#[]⟩, .string ⟨#[]⟩, .string ⟨#[]⟩, .string ⟨#[]⟩, .string ⟨#[]⟩, .string ⟨#[]⟩, .string ⟨#[]⟩, .string ⟨#[]⟩, .string ⟨#[]⟩, .string ⟨#[]⟩, .string ⟨#[]⟩, .string ⟨#[]⟩, .string ⟨#[]⟩, .string ⟨#[]⟩])]) := Lib.hid (Live.one (b1.out.2.1.nxt N6.out) b1.out.2.2 (b1.out.1.below N6.out b1.out.1.lt))
        have TH := F5.out.there 0 19 rfl (by decide)
        have HON : (#[.int .i64 0, .string ⟨#[]⟩, .string ⟨#[]⟩, .string ⟨#[]⟩, .string ⟨#[]⟩, .string ⟨#[]⟩, .string ⟨#[]⟩, .string ⟨#[]⟩, .string ⟨#[]⟩, .string ⟨#[]⟩, .string ⟨#[]⟩, .string ⟨#[]⟩, .string ⟨#[]⟩, .string ⟨#[]⟩, .string ⟨#[]⟩, .string ⟨#[]⟩, .string ⟨#[]⟩, .string ⟨#[]⟩, .string ⟨#[]⟩] : Array Value).all (·.oneCell') = true := by rw [zeros_eq]; exact nodeV_one _ _ _ _
        go_wp2_with (first | ((with_reducible refine at_op 37 ?_); refine wpList_build_eq rfl 91 _ rfl #[.int .i64 0, .string ⟨#[]⟩, .string ⟨#[]⟩, .string ⟨#[]⟩, .string ⟨#[]⟩, .string ⟨#[]⟩, .string ⟨#[]⟩, .string ⟨#[]⟩, .string ⟨#[]⟩, .string ⟨#[]⟩, .string ⟨#[]⟩, .string ⟨#[]⟩, .string ⟨#[]⟩, .string ⟨#[]⟩, .string ⟨#[]⟩, .string ⟨#[]⟩, .string ⟨#[]⟩, .string ⟨#[]⟩, .string ⟨#[]⟩] (by simp only [List.map_toArray, List.map_cons, List.map_nil]; kernel_rfl) ?_) | ((with_reducible refine at_put 37 ?_); refine wpList_store_mid rfl 91 _ _ rfl rb 0 #[.int .i64 0, .string ⟨#[]⟩, .string ⟨#[]⟩, .string ⟨#[]⟩, .string ⟨#[]⟩, .string ⟨#[]⟩, .string ⟨#[]⟩, .string ⟨#[]⟩, .string ⟨#[]⟩, .string ⟨#[]⟩, .string ⟨#[]⟩, .string ⟨#[]⟩, .string ⟨#[]⟩, .string ⟨#[]⟩, .string ⟨#[]⟩, .string ⟨#[]⟩, .string ⟨#[]⟩, .string ⟨#[]⟩, .string ⟨#[]⟩] rfl rfl TH info_node HON ?_; have F6 := Live.hall F5 0 (#[.int .i64 0, .string ⟨#[]⟩, .string ⟨#[]⟩, .string ⟨#[]⟩, .string ⟨#[]⟩, .string ⟨#[]⟩, .string ⟨#[]⟩, .string ⟨#[]⟩, .string ⟨#[]⟩, .string ⟨#[]⟩, .string ⟨#[]⟩, .string ⟨#[]⟩, .string ⟨#[]⟩, .string ⟨#[]⟩, .string ⟨#[]⟩, .string ⟨#[]⟩, .string ⟨#[]⟩, .string ⟨#[]⟩, .string ⟨#[]⟩] : Array Value).toList rfl rfl; generalize World.setCells _ rb 0 _ = W6 at F6 ⊢; have ld : (loadVar 91 ⟨rb, 0, none⟩).run Tryd.prog W6 = .ok (.agg #[.int .i64 0, .string ⟨#[]⟩, .string ⟨#[]⟩, .string ⟨#[]⟩, .string ⟨#[]⟩, .string ⟨#[]⟩, .string ⟨#[]⟩, .string ⟨#[]⟩, .string ⟨#[]⟩, .string ⟨#[]⟩, .string ⟨#[]⟩, .string ⟨#[]⟩, .string ⟨#[]⟩, .string ⟨#[]⟩, .string ⟨#[]⟩, .string ⟨#[]⟩, .string ⟨#[]⟩, .string ⟨#[]⟩, .string ⟨#[]⟩]) W6 := run_loadVar_mid (P := Tryd.prog) W6 rb 0 91 (#[.int .i64 0, .string ⟨#[]⟩, .string ⟨#[]⟩, .string ⟨#[]⟩, .string ⟨#[]⟩, .string ⟨#[]⟩, .string ⟨#[]⟩, .string ⟨#[]⟩, .string ⟨#[]⟩, .string ⟨#[]⟩, .string ⟨#[]⟩, .string ⟨#[]⟩, .string ⟨#[]⟩, .string ⟨#[]⟩, .string ⟨#[]⟩, .string ⟨#[]⟩, .string ⟨#[]⟩, .string ⟨#[]⟩, .string ⟨#[]⟩] : Array Value).toList _ (Blk.range0 (F6.out.blk 0 rfl)) Tryd.underlying91 rfl info_node; clear TH))
        have HF : P (.returned (.tuple #[.agg #[.int .i64 0, .string ⟨#[]⟩, .string ⟨#[]⟩, .string ⟨#[]⟩, .string ⟨#[]⟩, .string ⟨#[]⟩, .string ⟨#[]⟩, .string ⟨#[]⟩, .string ⟨#[]⟩, .string ⟨#[]⟩, .string ⟨#[]⟩, .string ⟨#[]⟩, .string ⟨#[]⟩, .string ⟨#[]⟩, .string ⟨#[]⟩, .string ⟨#[]⟩, .string ⟨#[]⟩, .string ⟨#[]⟩, .string ⟨#[]⟩], .int .i64 80])) W6 := HP.out W6 zeroN 80 HE.out F6.out.b
        exact ⟨rfl, _, results_cell2 rfl rfl ld rfl, HF⟩
  · have HE : Hid (decN s = (zeroN, 80)) := Lib.hid (by rw [HX.out, if_pos (.inl he)])
    have hen : ((en : Int) != 0) = true := by simp; exact he
    clear HX he
    go_wp2_with fail
    refine HEn.out.mono ?_
    rintro e w5 ⟨rfl, h5, h6⟩
    have N5 := Lib.hid (N4.out.read h5 h6)
    clear h5 h6
    have F5 : Hid (Live w w5 [(rb, 91, #[.int .i64 0, .string ⟨#[]⟩, .string ⟨#[]⟩, .string ⟨#[]⟩, .string ⟨#[]⟩, .string ⟨#[]⟩, .string ⟨#[]⟩, .string ⟨#[]⟩, .string ⟨#[]⟩, .string ⟨#[]⟩, .string ⟨#[]⟩, .string ⟨#[]⟩, .string ⟨#[]⟩, .string ⟨#[]⟩, .string ⟨#[]⟩, .string ⟨#[]⟩, .string ⟨#[]⟩, .string ⟨#[]⟩, .string ⟨#[]⟩])]) := Lib.hid (Live.one (b1.out.2.1.nxt N5.out.b) b1.out.2.2 (b1.out.1.below N5.out.b b1.out.1.lt))
    have TH := F5.out.there 0 19 rfl (by decide)
    have HON : (#[.int .i64 0, .string ⟨#[]⟩, .string ⟨#[]⟩, .string ⟨#[]⟩, .string ⟨#[]⟩, .string ⟨#[]⟩, .string ⟨#[]⟩, .string ⟨#[]⟩, .string ⟨#[]⟩, .string ⟨#[]⟩, .string ⟨#[]⟩, .string ⟨#[]⟩, .string ⟨#[]⟩, .string ⟨#[]⟩, .string ⟨#[]⟩, .string ⟨#[]⟩, .string ⟨#[]⟩, .string ⟨#[]⟩, .string ⟨#[]⟩] : Array Value).all (·.oneCell') = true := by rw [zeros_eq]; exact nodeV_one _ _ _ _
    go_wp2_with (first | ((with_reducible refine at_op 37 ?_); refine wpList_build_eq rfl 91 _ rfl #[.int .i64 0, .string ⟨#[]⟩, .string ⟨#[]⟩, .string ⟨#[]⟩, .string ⟨#[]⟩, .string ⟨#[]⟩, .string ⟨#[]⟩, .string ⟨#[]⟩, .string ⟨#[]⟩, .string ⟨#[]⟩, .string ⟨#[]⟩, .string ⟨#[]⟩, .string ⟨#[]⟩, .string ⟨#[]⟩, .string ⟨#[]⟩, .string ⟨#[]⟩, .string ⟨#[]⟩, .string ⟨#[]⟩, .string ⟨#[]⟩] (by simp only [List.map_toArray, List.map_cons, List.map_nil]; kernel_rfl) ?_) | ((with_reducible refine at_put 37 ?_); refine wpList_store_mid rfl 91 _ _ rfl rb 0 #[.int .i64 0, .string ⟨#[]⟩, .string ⟨#[]⟩, .string ⟨#[]⟩, .string ⟨#[]⟩, .string ⟨#[]⟩, .string ⟨#[]⟩, .string ⟨#[]⟩, .string ⟨#[]⟩, .string ⟨#[]⟩, .string ⟨#[]⟩, .string ⟨#[]⟩, .string ⟨#[]⟩, .string ⟨#[]⟩, .string ⟨#[]⟩, .string ⟨#[]⟩, .string ⟨#[]⟩, .string ⟨#[]⟩, .string ⟨#[]⟩] rfl rfl TH info_node HON ?_; have F6 := Live.hall F5 0 (#[.int .i64 0, .string ⟨#[]⟩, .string ⟨#[]⟩, .string ⟨#[]⟩, .string ⟨#[]⟩, .string ⟨#[]⟩, .string ⟨#[]⟩, .string ⟨#[]⟩, .string ⟨#[]⟩, .string ⟨#[]⟩, .string ⟨#[]⟩, .string ⟨#[]⟩, .string ⟨#[]⟩, .string ⟨#[]⟩, .string ⟨#[]⟩, .string ⟨#[]⟩, .string ⟨#[]⟩, .string ⟨#[]⟩, .string ⟨#[]⟩] : Array Value).toList rfl rfl; generalize World.setCells _ rb 0 _ = W6 at F6 ⊢; have ld : (loadVar 91 ⟨rb, 0, none⟩).run Tryd.prog W6 = .ok (.agg #[.int .i64 0, .string ⟨#[]⟩, .string ⟨#[]⟩, .string ⟨#[]⟩, .string ⟨#[]⟩, .string ⟨#[]⟩, .string ⟨#[]⟩, .string ⟨#[]⟩, .string ⟨#[]⟩, .string ⟨#[]⟩, .string ⟨#[]⟩, .string ⟨#[]⟩, .string ⟨#[]⟩, .string ⟨#[]⟩, .string ⟨#[]⟩, .string ⟨#[]⟩, .string ⟨#[]⟩, .string ⟨#[]⟩, .string ⟨#[]⟩]) W6 := run_loadVar_mid (P := Tryd.prog) W6 rb 0 91 (#[.int .i64 0, .string ⟨#[]⟩, .string ⟨#[]⟩, .string ⟨#[]⟩, .string ⟨#[]⟩, .string ⟨#[]⟩, .string ⟨#[]⟩, .string ⟨#[]⟩, .string ⟨#[]⟩, .string ⟨#[]⟩, .string ⟨#[]⟩, .string ⟨#[]⟩, .string ⟨#[]⟩, .string ⟨#[]⟩, .string ⟨#[]⟩, .string ⟨#[]⟩, .string ⟨#[]⟩, .string ⟨#[]⟩, .string ⟨#[]⟩] : Array Value).toList _ (Blk.range0 (F6.out.blk 0 rfl)) Tryd.underlying91 rfl info_node; clear TH))
    have HF : P (.returned (.tuple #[.agg #[.int .i64 0, .string ⟨#[]⟩, .string ⟨#[]⟩, .string ⟨#[]⟩, .string ⟨#[]⟩, .string ⟨#[]⟩, .string ⟨#[]⟩, .string ⟨#[]⟩, .string ⟨#[]⟩, .string ⟨#[]⟩, .string ⟨#[]⟩, .string ⟨#[]⟩, .string ⟨#[]⟩, .string ⟨#[]⟩, .string ⟨#[]⟩, .string ⟨#[]⟩, .string ⟨#[]⟩, .string ⟨#[]⟩, .string ⟨#[]⟩], .int .i64 80])) W6 := HP.out W6 zeroN 80 HE.out F6.out.b
    exact ⟨rfl, _, results_cell2 rfl rfl ld rfl, HF⟩
end Go.Proofs.YtefcmigbdfeaiaaDoor

/- The walks of layer 13 (proof): step. No conditions. -/
namespace Go.Proofs.YtefcmigbdfeaiaaDoor
set_option linter.unusedVariables false
open Go.RowKit Go.Instr
attribute [local go_sem] ba_get ByteArray.mk_append_mk
def StepEnd (w : World) (r : List UInt8 × List UInt8) (e : Ending) (w' : World) : Prop := e = .returned (.tuple #[.string ⟨r.1.toArray⟩, .string ⟨r.2.toArray⟩]) ∧ Below w.heap.size w w'
theorem stepW_eq (k : Nat) (p v : List UInt8) (K : List (List UInt8)) (left : List UInt8) : stepW (k, p, v, K) left = if Nib.common p left ≠ p.length then ([], [])
  else if k = 2 then (K.getD 0 [], left.drop p.length)
  else if k = 1 ∧ p.length < left.length then ([], [])
  else if k = 1 ∨ left = [] then ([], v)
  else if K.getD (left.headD 0).toNat [] = [] then ([], [])
  else (K.getD (left.headD 0).toNat [], left.tail) := rfl
set_option maxRecDepth 100000 in
set_option maxHeartbeats 2000000 in
theorem proof_step (w : World) (k : Nat) (p v : List UInt8) (K : List (List UInt8)) (hK : K.length = 16) (left : List UInt8) (hp : p.length ≤ 100000) (hl : left.length ≤ 100000) (hf : Nib.fit left = true) :
    Calls Tryd.prog 96 #[.agg (nodeV k p v K).toArray, .string ⟨left.toArray⟩] w (StepEnd w (stepW (k, p, v, K) left)) := by
  have HP : Hid (∀ a b w', stepW (k, p, v, K) left = (a, b) → Below w.heap.size w w' → StepEnd w (stepW (k, p, v, K) left) (.returned (.tuple #[.string ⟨a.toArray⟩, .string ⟨b.toArray⟩])) w') := Lib.hid (fun a b w' e h => by rw [e]; exact ⟨rfl, h⟩)
  generalize StepEnd w (stepW (k, p, v, K) left) = P at HP ⊢
  have HX := Lib.hid (stepW_eq k p v K left)
  generalize stepW (k, p, v, K) left = X at *
  have HCm : Hid (∀ W, Calls Tryd.prog 58 #[.string ⟨p.toArray⟩, .string ⟨left.toArray⟩] W fun e w' => e = .returned (.int .i64 (Nib.common p left : Int)) ∧ Below W.heap.size W w') := Lib.hid (fun W => nib_Common p left W (by omega) (by omega))
  have HK := Lib.hid hK
  have hle := Nib.common_le p left
  clear hK
  by_cases hc : Nib.common p left = p.length
  · rw [if_neg (by simpa using hc)] at HX
    have hpl : p.length ≤ left.length := by omega
    rw [hc] at HCm
    have hcI : ((p.length : Int) == (p.length : Int)) = true := by simp
    by_cases h2 : k = 2
    · subst h2
      rw [if_pos rfl] at HX
      have hd := run_drop left p.length hpl
      generalize left.drop p.length = lr at *
      clear hle hc hpl hf hp hl
      go_enter Tryd.func96, Tryd.ntmps96
      go_upto_region 1 with fail
      obtain ⟨nb, hnb⟩ : ∃ nb, w.heap.size = nb := ⟨_, rfl⟩
      have hb0 : Hid (Blk (w.alloc (.cells (nodeV 2 p v K).toArray 91)) nb 91 (nodeV 2 p v K).toArray ∧ Below w.heap.size w (w.alloc (.cells (nodeV 2 p v K).toArray 91))) := Lib.hid (by subst hnb; exact ⟨Blk.new _ _ _, by go_grown⟩)
      rw [hnb]
      generalize w.alloc (.cells (nodeV 2 p v K).toArray 91) = W0 at hb0 ⊢
      clear hnb
      have c1 : W0.cell? ⟨nb, 1, none⟩ = some (.string ⟨p.toArray⟩) := hb0.out.1.cell 1
      go_region_held3 (fun w' => w'.cell? ⟨nb, 1, none⟩ = some (.string ⟨p.toArray⟩)) (first | go_keep | assumption) ((go_at_call 58; refine (HCm.out _).mono ?_; rintro e w1 ⟨rfl, hb⟩; have B1 : Below W0.heap.size W0 w1 := (by first | exact hb | exact hb.start); have d1 : w1.cell? ⟨nb, 1, none⟩ = some (.string ⟨p.toArray⟩) := (B1.cell (p := ⟨nb, 1, none⟩) hb0.out.1.lt).trans c1; clear hb))
      have B2 := Lib.hid (hb0.out.1.below B1 hb0.out.1.lt)
      have BB : Hid (Below w.heap.size w w1) := Lib.hid (hb0.out.2.nxt B1)
      have c0 : w1.cell? ⟨nb, 0, none⟩ = some (.int .i64 (2 : Int)) := B2.out.cell 0
      have c2 : w1.cell? ⟨nb, 2, none⟩ = some (.string ⟨v.toArray⟩) := B2.out.cell 2
      have c3 : ∀ i, i < 16 → w1.cell? ⟨nb, 3 + i, none⟩ = some (.string ⟨(K.getD i []).toArray⟩) := fun i hi => by
        rw [B2.out.cell, List.getElem?_toArray, show 3 + i = i + 1 + 1 + 1 by omega]
        unfold nodeV
        rw [List.getElem?_cons_succ, List.getElem?_cons_succ, List.getElem?_cons_succ, strv_at (by rw [HK.out]; exact hi), List.getD_eq_getElem?_getD, List.getElem?_eq_getElem (by rw [HK.out]; exact hi)]
        rfl
      have HC3 := Lib.hid c3
      clear c3 c1 hb0 B1
      have c3 := HC3.out 0 (by omega)
      go_wp2_with fail
      go_quiet (fail)
      go_wp2_with fail
      exact HP.out _ _ _ HX.out (below_drewN BB.out _)
    · rw [if_neg h2] at HX
      have h2I : ((k : Int) == 2) = false := by simp; omega
      by_cases h1 : k = 1
      · subst h1
        by_cases hlt : p.length < left.length
        · rw [if_pos ⟨rfl, hlt⟩] at HX
          have hI : (p.length : Int) < left.length := by omega
          clear hle hc hpl hf hlt h2 h2I
          go_enter Tryd.func96, Tryd.ntmps96
          go_upto_region 1 with fail
          obtain ⟨nb, hnb⟩ : ∃ nb, w.heap.size = nb := ⟨_, rfl⟩
          have hb0 : Hid (Blk (w.alloc (.cells (nodeV 1 p v K).toArray 91)) nb 91 (nodeV 1 p v K).toArray ∧ Below w.heap.size w (w.alloc (.cells (nodeV 1 p v K).toArray 91))) := Lib.hid (by subst hnb; exact ⟨Blk.new _ _ _, by go_grown⟩)
          rw [hnb]
          generalize w.alloc (.cells (nodeV 1 p v K).toArray 91) = W0 at hb0 ⊢
          clear hnb
          have c1 : W0.cell? ⟨nb, 1, none⟩ = some (.string ⟨p.toArray⟩) := hb0.out.1.cell 1
          go_region_held3 (fun w' => w'.cell? ⟨nb, 1, none⟩ = some (.string ⟨p.toArray⟩)) (first | go_keep | assumption) ((go_at_call 58; refine (HCm.out _).mono ?_; rintro e w1 ⟨rfl, hb⟩; have B1 : Below W0.heap.size W0 w1 := (by first | exact hb | exact hb.start); have d1 : w1.cell? ⟨nb, 1, none⟩ = some (.string ⟨p.toArray⟩) := (B1.cell (p := ⟨nb, 1, none⟩) hb0.out.1.lt).trans c1; clear hb))
          have B2 := Lib.hid (hb0.out.1.below B1 hb0.out.1.lt)
          have BB : Hid (Below w.heap.size w w1) := Lib.hid (hb0.out.2.nxt B1)
          have c0 : w1.cell? ⟨nb, 0, none⟩ = some (.int .i64 (1 : Int)) := B2.out.cell 0
          have c2 : w1.cell? ⟨nb, 2, none⟩ = some (.string ⟨v.toArray⟩) := B2.out.cell 2
          have c3 : ∀ i, i < 16 → w1.cell? ⟨nb, 3 + i, none⟩ = some (.string ⟨(K.getD i []).toArray⟩) := fun i hi => by
            rw [B2.out.cell, List.getElem?_toArray, show 3 + i = i + 1 + 1 + 1 by omega]
            unfold nodeV
            rw [List.getElem?_cons_succ, List.getElem?_cons_succ, List.getElem?_cons_succ, strv_at (by rw [HK.out]; exact hi), List.getD_eq_getElem?_getD, List.getElem?_eq_getElem (by rw [HK.out]; exact hi)]
            rfl
          have HC3 := Lib.hid c3
          clear c3 c1 hb0 B1
          go_wp2_with fail
          exact HP.out _ _ _ HX.out BB.out
        · rw [if_neg (fun h => hlt h.2), if_pos (.inl rfl)] at HX
          have hI : ((p.length : Int) < left.length) = False := by simp; omega
          clear hle hc hpl hf hlt h2 h2I
          go_enter Tryd.func96, Tryd.ntmps96
          go_upto_region 1 with fail
          obtain ⟨nb, hnb⟩ : ∃ nb, w.heap.size = nb := ⟨_, rfl⟩
          have hb0 : Hid (Blk (w.alloc (.cells (nodeV 1 p v K).toArray 91)) nb 91 (nodeV 1 p v K).toArray ∧ Below w.heap.size w (w.alloc (.cells (nodeV 1 p v K).toArray 91))) := Lib.hid (by subst hnb; exact ⟨Blk.new _ _ _, by go_grown⟩)
          rw [hnb]
          generalize w.alloc (.cells (nodeV 1 p v K).toArray 91) = W0 at hb0 ⊢
          clear hnb
          have c1 : W0.cell? ⟨nb, 1, none⟩ = some (.string ⟨p.toArray⟩) := hb0.out.1.cell 1
          go_region_held3 (fun w' => w'.cell? ⟨nb, 1, none⟩ = some (.string ⟨p.toArray⟩)) (first | go_keep | assumption) ((go_at_call 58; refine (HCm.out _).mono ?_; rintro e w1 ⟨rfl, hb⟩; have B1 : Below W0.heap.size W0 w1 := (by first | exact hb | exact hb.start); have d1 : w1.cell? ⟨nb, 1, none⟩ = some (.string ⟨p.toArray⟩) := (B1.cell (p := ⟨nb, 1, none⟩) hb0.out.1.lt).trans c1; clear hb))
          have B2 := Lib.hid (hb0.out.1.below B1 hb0.out.1.lt)
          have BB : Hid (Below w.heap.size w w1) := Lib.hid (hb0.out.2.nxt B1)
          have c0 : w1.cell? ⟨nb, 0, none⟩ = some (.int .i64 (1 : Int)) := B2.out.cell 0
          have c2 : w1.cell? ⟨nb, 2, none⟩ = some (.string ⟨v.toArray⟩) := B2.out.cell 2
          have c3 : ∀ i, i < 16 → w1.cell? ⟨nb, 3 + i, none⟩ = some (.string ⟨(K.getD i []).toArray⟩) := fun i hi => by
            rw [B2.out.cell, List.getElem?_toArray, show 3 + i = i + 1 + 1 + 1 by omega]
            unfold nodeV
            rw [List.getElem?_cons_succ, List.getElem?_cons_succ, List.getElem?_cons_succ, strv_at (by rw [HK.out]; exact hi), List.getD_eq_getElem?_getD, List.getElem?_eq_getElem (by rw [HK.out]; exact hi)]
            rfl
          have HC3 := Lib.hid c3
          clear c3 c1 hb0 B1
          go_wp2_with fail
          go_quiet (fail)
          go_wp2_with fail
          exact HP.out _ _ _ HX.out (below_drewN BB.out _)
      · rw [if_neg (fun h => h1 h.1)] at HX
        have h1I : ((k : Int) == 1) = false := by simp; omega
        cases left with
        | nil =>
          rw [if_pos (.inr rfl)] at HX
          clear hle hc hpl hf h1 h2
          go_enter Tryd.func96, Tryd.ntmps96
          go_upto_region 1 with fail
          obtain ⟨nb, hnb⟩ : ∃ nb, w.heap.size = nb := ⟨_, rfl⟩
          have hb0 : Hid (Blk (w.alloc (.cells (nodeV k p v K).toArray 91)) nb 91 (nodeV k p v K).toArray ∧ Below w.heap.size w (w.alloc (.cells (nodeV k p v K).toArray 91))) := Lib.hid (by subst hnb; exact ⟨Blk.new _ _ _, by go_grown⟩)
          rw [hnb]
          generalize w.alloc (.cells (nodeV k p v K).toArray 91) = W0 at hb0 ⊢
          clear hnb
          have c1 : W0.cell? ⟨nb, 1, none⟩ = some (.string ⟨p.toArray⟩) := hb0.out.1.cell 1
          go_region_held3 (fun w' => w'.cell? ⟨nb, 1, none⟩ = some (.string ⟨p.toArray⟩)) (first | go_keep | assumption) ((go_at_call 58; refine (HCm.out _).mono ?_; rintro e w1 ⟨rfl, hb⟩; have B1 : Below W0.heap.size W0 w1 := (by first | exact hb | exact hb.start); have d1 : w1.cell? ⟨nb, 1, none⟩ = some (.string ⟨p.toArray⟩) := (B1.cell (p := ⟨nb, 1, none⟩) hb0.out.1.lt).trans c1; clear hb))
          have B2 := Lib.hid (hb0.out.1.below B1 hb0.out.1.lt)
          have BB : Hid (Below w.heap.size w w1) := Lib.hid (hb0.out.2.nxt B1)
          have c0 : w1.cell? ⟨nb, 0, none⟩ = some (.int .i64 (k : Int)) := B2.out.cell 0
          have c2 : w1.cell? ⟨nb, 2, none⟩ = some (.string ⟨v.toArray⟩) := B2.out.cell 2
          have c3 : ∀ i, i < 16 → w1.cell? ⟨nb, 3 + i, none⟩ = some (.string ⟨(K.getD i []).toArray⟩) := fun i hi => by
            rw [B2.out.cell, List.getElem?_toArray, show 3 + i = i + 1 + 1 + 1 by omega]
            unfold nodeV
            rw [List.getElem?_cons_succ, List.getElem?_cons_succ, List.getElem?_cons_succ, strv_at (by rw [HK.out]; exact hi), List.getD_eq_getElem?_getD, List.getElem?_eq_getElem (by rw [HK.out]; exact hi)]
            rfl
          have HC3 := Lib.hid c3
          clear c3 c1 hb0 B1
          go_wp2_with fail
          go_quiet (fail)
          go_wp2_with fail
          exact HP.out _ _ _ HX.out (below_drewN BB.out _)
        | cons b r =>
          rw [if_neg (by simp [h1])] at HX
          obtain ⟨hb15, _⟩ := Nib.fit_cons hf
          have hb16 : b.toNat < 16 := by rw [UInt8.le_iff_toNat_le] at hb15; simp at hb15; omega
          have hbI : (b.toNat : Int) < 16 := by omega
          have hb0 : (0 : Int) ≤ b.toNat := by omega
          have HTl := run_tail b r
          have ne1 : ((b :: r).toArray = #[]) = False := by simp
          have ne2 : (b :: r).isEmpty = false := rfl
          have hix : ∀ W, (Instr.index 9 (.string ⟨(b :: r).toArray⟩) (.int .i64 0)).run Tryd.prog W = .ok (.int .u8 (b.toNat : Int)) W := fun W => run_byte (b :: r) 0 (by simp) W
          have HX2 : Hid (X = if K.getD b.toNat [] = [] then ([], []) else (K.getD b.toNat [], r)) := Lib.hid HX.out
          clear hle hc hpl hf h1 h2 HX hb15
          generalize hl' : (b :: r) = left at *
          clear hl'
          have HB16 := Lib.hid hb16
          clear hb16
          go_enter Tryd.func96, Tryd.ntmps96
          go_upto_region 1 with fail
          obtain ⟨nb, hnb⟩ : ∃ nb, w.heap.size = nb := ⟨_, rfl⟩
          have hb0 : Hid (Blk (w.alloc (.cells (nodeV k p v K).toArray 91)) nb 91 (nodeV k p v K).toArray ∧ Below w.heap.size w (w.alloc (.cells (nodeV k p v K).toArray 91))) := Lib.hid (by subst hnb; exact ⟨Blk.new _ _ _, by go_grown⟩)
          rw [hnb]
          generalize w.alloc (.cells (nodeV k p v K).toArray 91) = W0 at hb0 ⊢
          clear hnb
          have c1 : W0.cell? ⟨nb, 1, none⟩ = some (.string ⟨p.toArray⟩) := hb0.out.1.cell 1
          go_region_held3 (fun w' => w'.cell? ⟨nb, 1, none⟩ = some (.string ⟨p.toArray⟩)) (first | go_keep | assumption) ((go_at_call 58; refine (HCm.out _).mono ?_; rintro e w1 ⟨rfl, hb⟩; have B1 : Below W0.heap.size W0 w1 := (by first | exact hb | exact hb.start); have d1 : w1.cell? ⟨nb, 1, none⟩ = some (.string ⟨p.toArray⟩) := (B1.cell (p := ⟨nb, 1, none⟩) hb0.out.1.lt).trans c1; clear hb))
          have B2 := Lib.hid (hb0.out.1.below B1 hb0.out.1.lt)
          have BB : Hid (Below w.heap.size w w1) := Lib.hid (hb0.out.2.nxt B1)
          have c0 : w1.cell? ⟨nb, 0, none⟩ = some (.int .i64 (k : Int)) := B2.out.cell 0
          have c2 : w1.cell? ⟨nb, 2, none⟩ = some (.string ⟨v.toArray⟩) := B2.out.cell 2
          have c3 : ∀ i, i < 16 → w1.cell? ⟨nb, 3 + i, none⟩ = some (.string ⟨(K.getD i []).toArray⟩) := fun i hi => by
            rw [B2.out.cell, List.getElem?_toArray, show 3 + i = i + 1 + 1 + 1 by omega]
            unfold nodeV
            rw [List.getElem?_cons_succ, List.getElem?_cons_succ, List.getElem?_cons_succ, strv_at (by rw [HK.out]; exact hi), List.getD_eq_getElem?_getD, List.getElem?_eq_getElem (by rw [HK.out]; exact hi)]
            rfl
          have HC3 := Lib.hid c3
          clear c3 c1 hb0 B1
          have c3 := HC3.out b.toNat HB16.out
          generalize K.getD b.toNat [] = kd at *
          generalize b.toNat = bn at *
          by_cases hkd : kd = []
          · subst hkd
            rw [if_pos rfl] at HX2
            go_wp2_with fail
            exact HP.out _ _ _ HX2.out BB.out
          · rw [if_neg hkd] at HX2
            have ne3 : (kd.toArray = #[]) = False := by simp [hkd]
            have ne4 : kd.isEmpty = false := by simp [hkd]
            clear hkd
            go_wp2_with fail
            go_quiet (fail)
            go_wp2_with fail
            exact HP.out _ _ _ HX2.out (below_drewN BB.out _)
  · rw [if_pos hc] at HX
    have hcI : ((Nib.common p left : Int) == (p.length : Int)) = false := by simp; omega
    clear hle hc hf
    generalize Nib.common p left = cm at *
    go_enter Tryd.func96, Tryd.ntmps96
    go_upto_region 1 with fail
    obtain ⟨nb, hnb⟩ : ∃ nb, w.heap.size = nb := ⟨_, rfl⟩
    have hb0 : Hid (Blk (w.alloc (.cells (nodeV k p v K).toArray 91)) nb 91 (nodeV k p v K).toArray ∧ Below w.heap.size w (w.alloc (.cells (nodeV k p v K).toArray 91))) := Lib.hid (by subst hnb; exact ⟨Blk.new _ _ _, by go_grown⟩)
    rw [hnb]
    generalize w.alloc (.cells (nodeV k p v K).toArray 91) = W0 at hb0 ⊢
    clear hnb
    have c1 : W0.cell? ⟨nb, 1, none⟩ = some (.string ⟨p.toArray⟩) := hb0.out.1.cell 1
    go_region_held3 (fun w' => w'.cell? ⟨nb, 1, none⟩ = some (.string ⟨p.toArray⟩)) (first | go_keep | assumption) ((go_at_call 58; refine (HCm.out _).mono ?_; rintro e w1 ⟨rfl, hb⟩; have B1 : Below W0.heap.size W0 w1 := (by first | exact hb | exact hb.start); have d1 : w1.cell? ⟨nb, 1, none⟩ = some (.string ⟨p.toArray⟩) := (B1.cell (p := ⟨nb, 1, none⟩) hb0.out.1.lt).trans c1; clear hb))
    have B2 := Lib.hid (hb0.out.1.below B1 hb0.out.1.lt)
    have BB : Hid (Below w.heap.size w w1) := Lib.hid (hb0.out.2.nxt B1)
    have c0 : w1.cell? ⟨nb, 0, none⟩ = some (.int .i64 (k : Int)) := B2.out.cell 0
    have c2 : w1.cell? ⟨nb, 2, none⟩ = some (.string ⟨v.toArray⟩) := B2.out.cell 2
    have c3 : ∀ i, i < 16 → w1.cell? ⟨nb, 3 + i, none⟩ = some (.string ⟨(K.getD i []).toArray⟩) := fun i hi => by
      rw [B2.out.cell, List.getElem?_toArray, show 3 + i = i + 1 + 1 + 1 by omega]
      unfold nodeV
      rw [List.getElem?_cons_succ, List.getElem?_cons_succ, List.getElem?_cons_succ, strv_at (by rw [HK.out]; exact hi), List.getD_eq_getElem?_getD, List.getElem?_eq_getElem (by rw [HK.out]; exact hi)]
      rfl
    have HC3 := Lib.hid c3
    clear c3 c1 hb0 B1
    go_wp2_with fail
    exact HP.out _ _ _ HX.out BB.out
end Go.Proofs.YtefcmigbdfeaiaaDoor

/- The walks of layer 13 (proof): follow, Verify, Prove. No conditions. -/
namespace Go.Proofs.YtefcmigbdfeaiaaDoor
set_option linter.unusedVariables false
open Go.RowKit Go.Instr
attribute [local go_sem] ba_get ByteArray.mk_append_mk
def FollowEnd (w : World) (r : List UInt8 × Nat × Bool) (e : Ending) (w' : World) : Prop := e = .returned (.tuple #[.string ⟨r.1.toArray⟩, .int .i64 (r.2.1 : Int), .bool r.2.2]) ∧ Below w.heap.size w w'
/-- what is left behind a step is a path -/
theorem step_rest {n : Nd} {l : List UInt8} (h : (stepW n l).1 ≠ []) (hf : Nib.fit l = true) : Nib.fit (stepW n l).2 = true ∧ (stepW n l).2.length ≤ l.length := by
  obtain ⟨k, p, v, K⟩ := n
  rw [stepW_eq] at h ⊢
  split at h
  · exact absurd rfl h
  rename_i h1
  rw [if_neg h1]
  split at h
  · rename_i h2
    rw [if_pos h2]
    exact ⟨Trie.fit_drop _ hf, by rw [List.length_drop]; omega⟩
  rename_i h2
  rw [if_neg h2]
  split at h
  · exact absurd rfl h
  rename_i h3
  rw [if_neg h3]
  split at h
  · exact absurd rfl h
  rename_i h4
  rw [if_neg h4]
  split at h
  · exact absurd rfl h
  rename_i h5
  rw [if_neg h5]
  cases l with
  | nil => exact ⟨rfl, Nat.le_refl _⟩
  | cons b r => exact ⟨(Nib.fit_cons hf).2, by simp⟩
theorem decN_small (s : List UInt8) : (decN s).1.2.1.length ≤ 16 ∧ (decN s).1.2.2.2.length = 16 := by
  rcases decN_cases s with h | ⟨n, h, h1, h2, _⟩
  · rw [h]; exact ⟨Nat.zero_le _, rfl⟩
  · rw [h]
    exact ⟨(fineN_parts h2).2.2.1, h1⟩
set_option maxRecDepth 100000 in
set_option maxHeartbeats 2000000 in
theorem proof_follow (w : World) (sought left : List UInt8) (nodes : List (List UInt8)) (A : Option Addr) (c : Nat) (HR : Reads w w.heap.size 1 A nodes.length (strv nodes)) (hn : nodes.length ≤ 100000) (hs : ∀ x ∈ nodes, x.length ≤ 999999) (hl : left.length ≤ 100000) (hf : Nib.fit left = true) (hT : Tbl w) :
    Calls Tryd.prog 71 #[.string ⟨sought.toArray⟩, .string ⟨left.toArray⟩, .slice A nodes.length c] w (FollowEnd w (followW sought left nodes 0)) := by
  have HP : Hid (∀ (v : List UInt8) (t : Nat) b w', followW sought left nodes 0 = (v, t, b) → Below w.heap.size w w' → FollowEnd w (followW sought left nodes 0) (.returned (.tuple #[.string ⟨v.toArray⟩, .int .i64 (t : Int), .bool b])) w') := Lib.hid (fun v t b w' e h => by rw [e]; exact ⟨rfl, h⟩)
  generalize FollowEnd w (followW sought left nodes 0) = P at HP ⊢
  have H0 : Hid (followW sought left nodes 0 = followW sought left (nodes.drop 0) 0) := Lib.hid rfl
  generalize followW sought left nodes 0 = X at *
  have HRR := Lib.hid HR
  have HS := Lib.hid hs
  have HTb := Lib.hid hT
  have HL := Lib.hid (And.intro hn hl)
  have HF0 := Lib.hid hf
  clear HR hs hT hf hn hl
  go_enter Tryd.func71, Tryd.ntmps71
  go_wp2_with fail
  refine wp_scope_ghost 0 (fun _ _ _ => False) rfl ?_ (fun _ _ _ h => h.elim)
  intro K0 hK0
  go_wp2_with fail
  go_step3
  go_wp2_with fail
  refine wp_loop_ghost_k (fun k a wr => ∀ Φ : Act → Prop, (∀ (s2 s3 s4 s5 s6 s8 s9 s10 s11 s12 s13 s14 s15 s16 s20 s21 s22 s23 s24 s25 s26 s27 s28 s29 s30 s31 s32 s33 s34 s35 s36 s37 s38 s39 s40 s41 s42 s43 s44 s45 s46 s47 s48 s49 s50 s51 s52 s53 s54 s55 : Value) (i : Nat) (s l : List UInt8), (i + k = nodes.length ∧ X = followW s l (nodes.drop i) i ∧ Nib.fit l = true ∧ l.length ≤ 100000 ∧ Below w.heap.size w wr) → Φ { tmps := #[.string ⟨s.toArray⟩, .string ⟨l.toArray⟩, s2, s3, s4, s5, s6, .int .i64 (i : Int), s8, s9, s10, s11, s12, s13, s14, s15, s16, .slice A nodes.length c, .int .i64 nodes.length, .int .i64 (i : Int), s20, s21, s22, s23, s24, s25, s26, s27, s28, s29, s30, s31, s32, s33, s34, s35, s36, s37, s38, s39, s40, s41, s42, s43, s44, s45, s46, s47, s48, s49, s50, s51, s52, s53, s54, s55], defers := [] }) → Φ a) (nodes.length) ?_ ?_
  · refine fun Φ hΦ => hΦ _ _ _ _ _ _ _ _ _ _ _ _ _ _ _ _ _ _ _ _ _ _ _ _ _ _ _ _ _ _ _ _ _ _ _ _ _ _ _ _ _ _ _ _ _ _ _ _ _ _ (0) (sought) (left) ?_
    exact ⟨by omega, H0.out, HF0.out, HL.out.2, Below.refl _ _⟩
  · intro k1 a1 wr1 hI1 J1 K1 hJ1 hK1
    refine hI1 (fun a => Code.wp _ _ _ a _) ?_
    clear hI1 a1
    intro s0 s1 s2 s3 s4 s5 s6 s7 s8 s9 s10 s11 s12 s13 s14 s15 s16 s17 s18 s19 s20 s21 s22 s23 s24 s25 s26 s27 s28 s29 s30 s31 s32 s33 s34 s35 s36 s37 s38 s39 s40 s41 s42 s43 s44 s45 s46 s47 s48 s49 i s l hrel
    show Code.wp _ _ _ _ _
    clear H0 HF0
    obtain ⟨h1, h2, h3, h4, hb⟩ := hrel
    by_cases hi : i < nodes.length
    · obtain ⟨ad, off, rfl, hbl, hcell⟩ := few_cell HRR.out hi
      have r0 := hcell _ hb
      have hd : nodes.drop i = nodes[i] :: nodes.drop (i + 1) := List.drop_eq_getElem_cons hi
      rw [hd, followW_cons] at h2
      have hlen := HS.out _ (List.getElem_mem hi)
      have HI := Lib.hid h1
      have HX := Lib.hid h2
      have HF := Lib.hid (And.intro h3 h4)
      have HB := Lib.hid hb
      have hi0 : (i : Int) < nodes.length := by omega
      have hi1 : (0 : Int) ≤ i := by omega
      have hi2 : (i : Int) ≤ 100000 := by have := HL.out.1; omega
      clear h1 h2 h3 h4 hb hd hcell hbl
      generalize nodes[i] = x at *
      have HSum : Hid (∀ W, Below w.heap.size w W → Calls Tryd.prog 89 #[.int .i64 1, .string ⟨x.toArray⟩] W fun e w' => e = .returned (.tuple #[.string ⟨(shaW (1 :: x)).toArray⟩, .int .i64 0]) ∧ Below W.heap.size W w') := Lib.hid (fun W hW => digest_Sum W 1 (by omega) (by omega) x hlen (HTb.out.next hW))
      have HDec := Lib.hid (fun W => node_Decode W x (by omega))
      have hsm := decN_small x
      generalize shaW (1 :: x) = sm at *
      generalize decN x = dn at *
      obtain ⟨⟨k, p, v, K⟩, dc⟩ := dn
      simp only at HX hsm
      unfold DecNEnd at HDec
      simp only at HDec
      have HStep := Lib.hid (fun W => proof_step W k p v K hsm.2 l (by omega) HF.out.2 HF.out.1)
      have HRest := Lib.hid (fun h => step_rest (n := (k, p, v, K)) (l := l) h HF.out.1)
      have SZ : (Tryd.prog.info? 91).map (·.size) = some (nodeV k p v K).length := by rw [nodeV_size hsm.2]; exact info_node
      have HON := nodeV_one k p v K
      have HSz := Lib.hid (nodeV_size (k := k) (p := p) (v := v) hsm.2)
      generalize stepW (k, p, v, K) l = st at *
      clear hsm hlen
      generalize nodeV k p v K = NV at *
      go_wp2_with fail
      refine (HSum.out _ HB.out).mono ?_
      rintro e w2 ⟨rfl, hb2⟩
      have HB2 := Lib.hid (HB.out.nxt hb2)
      clear hb2
      go_wp2_with fail
      refine (HDec.out _).mono ?_
      rintro e w3 ⟨rfl, hb3⟩
      have F3 : Hid (Live w (w3.alloc (.cells #[.int .i64 0, .string ⟨#[]⟩, .string ⟨#[]⟩, .string ⟨#[]⟩, .string ⟨#[]⟩, .string ⟨#[]⟩, .string ⟨#[]⟩, .string ⟨#[]⟩, .string ⟨#[]⟩, .string ⟨#[]⟩, .string ⟨#[]⟩, .string ⟨#[]⟩, .string ⟨#[]⟩, .string ⟨#[]⟩, .string ⟨#[]⟩, .string ⟨#[]⟩, .string ⟨#[]⟩, .string ⟨#[]⟩, .string ⟨#[]⟩] 91)) [(w3.heap.size, 91, #[.int .i64 0, .string ⟨#[]⟩, .string ⟨#[]⟩, .string ⟨#[]⟩, .string ⟨#[]⟩, .string ⟨#[]⟩, .string ⟨#[]⟩, .string ⟨#[]⟩, .string ⟨#[]⟩, .string ⟨#[]⟩, .string ⟨#[]⟩, .string ⟨#[]⟩, .string ⟨#[]⟩, .string ⟨#[]⟩, .string ⟨#[]⟩, .string ⟨#[]⟩, .string ⟨#[]⟩, .string ⟨#[]⟩, .string ⟨#[]⟩])]) := Lib.hid (Live.one ((HB2.out.nxt hb3).alloc (HB2.out.nxt hb3).size _) (HB2.out.nxt hb3).size (Blk.new _ _ _))
      have TH : (w3.alloc (.cells #[.int .i64 0, .string ⟨#[]⟩, .string ⟨#[]⟩, .string ⟨#[]⟩, .string ⟨#[]⟩, .string ⟨#[]⟩, .string ⟨#[]⟩, .string ⟨#[]⟩, .string ⟨#[]⟩, .string ⟨#[]⟩, .string ⟨#[]⟩, .string ⟨#[]⟩, .string ⟨#[]⟩, .string ⟨#[]⟩, .string ⟨#[]⟩, .string ⟨#[]⟩, .string ⟨#[]⟩, .string ⟨#[]⟩, .string ⟨#[]⟩] 91)).there w3.heap.size 0 NV.toArray.size := by
        rw [show NV.toArray.size = 19 by rw [List.size_toArray]; exact HSz.out]
        exact F3.out.there 0 19 rfl (by decide)
      have SZ2 : (Tryd.prog.info? 91).map (·.size) = some NV.toArray.size := by rw [List.size_toArray]; exact SZ
      clear hb3 r0
      go_upto_region 6 with ((with_reducible refine at_put 31 ?_); refine wpList_store_mid rfl 91 _ _ rfl w3.heap.size 0 NV.toArray rfl rfl TH SZ2 HON ?_)
      have F4 := Live.hall F3 0 NV.toArray.toList rfl HSz.out.symm
      generalize World.setCells _ w3.heap.size 0 _ = W4 at F4 ⊢
      generalize w3.heap.size = nb at F4 ⊢
      clear TH SZ2 F3 HON
      have RA := Blk.range0 (F4.out.blk 0 rfl)
      by_cases hsm : sm = s
      · subst hsm
        have hs1 : (sm == sm) = true := by simp
        by_cases hdc : dc = 0
        · subst hdc
          rw [if_neg (by simp)] at HX
          obtain ⟨nx, rs⟩ := st
          simp only at HX HRest
          by_cases hnx : nx = []
          · subst hnx
            rw [if_pos rfl] at HX
            clear HRest
            go_wp2_with (first | ((with_reducible refine at_op 43 ?_); refine wpList_load_want (by rfl) 91 _ rfl nb 0 rfl _ _ RA Tryd.underlying91 rfl SZ ?_) | fail)
            refine (HStep.out _).mono ?_
            rintro e w5 ⟨rfl, hb5⟩
            have HB5 := Lib.hid (F4.out.b.nxt hb5)
            clear hb5 RA
            go_wp2_with fail
            exact HP.out _ (i + 1) _ _ HX.out HB5.out
          · rw [if_neg hnx] at HX
            have ne1 : (nx.toArray = #[]) = False := by simp [hnx]
            have ne2 : nx.isEmpty = false := by simp [hnx]
            have HRs := Lib.hid (HRest.out hnx)
            clear HRest hnx
            go_wp2_with (first | ((with_reducible refine at_op 43 ?_); refine wpList_load_want (by rfl) 91 _ rfl nb 0 rfl _ _ RA Tryd.underlying91 rfl SZ ?_) | fail)
            refine (HStep.out _).mono ?_
            rintro e w5 ⟨rfl, hb5⟩
            have HB5 := Lib.hid (F4.out.b.nxt hb5)
            clear hb5 RA
            go_wp2_with fail
            refine Handed.intro (nodes.length - (i + 1)) ?_ (hJ1 _ _ _ (fun Φ hΦ => hΦ _ _ _ _ _ _ _ _ _ _ _ _ _ _ _ _ _ _ _ _ _ _ _ _ _ _ _ _ _ _ _ _ _ _ _ _ _ _ _ _ _ _ _ _ _ _ _ _ _ _ (i + 1) (nx) (rs) ?_))
            · have := HI.out; omega
            · exact ⟨by have := HI.out; omega, HX.out, HRs.out.1, Nat.le_trans HRs.out.2 HF.out.2, HB5.out⟩
        · rw [if_pos (.inr hdc)] at HX
          have hdI : ((dc : Int) != 0) = true := by simp; exact hdc
          clear hdc HRest HStep
          go_wp2_with fail
          exact HP.out _ i _ _ HX.out F4.out.b
      · rw [if_pos (.inl hsm)] at HX
        have hs1 : (sm == s) = false := by simp [hsm]
        clear hsm HRest HStep
        go_wp2_with fail
        exact HP.out _ i _ _ HX.out F4.out.b
    · have hi0 : ((i : Int) < nodes.length) = False := by simp; omega
      have HX : Hid (X = ([], i, false)) := Lib.hid (by rw [h2, List.drop_of_length_le (by omega)]; rfl)
      have HB := Lib.hid hb
      clear h1 h2 h3 h4 hb hi
      go_wp2_with fail
      exact HP.out _ i _ _ HX.out HB.out
end Go.Proofs.YtefcmigbdfeaiaaDoor
