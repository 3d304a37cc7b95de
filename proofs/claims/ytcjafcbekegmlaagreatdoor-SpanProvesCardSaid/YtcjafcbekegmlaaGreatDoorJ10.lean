import Derived.Test.YtcjafcbekegmlaaGreatDoorJ09
import Derived.Test.YtcjafcbekegmlaaGreatDoorJ07
import Derived.Test.YtcjafcbekegmlaaGreatDoorJ01
import Derived.Deep.MidRow
set_option linter.unusedSimpArgs false
set_option linter.unusedVariables false
namespace Go.Proofs.YtcjafcbekegmlaaGreatDoor
set_option linter.unusedVariables false
open Go.RowKit
attribute [local go_sem] ba_get ByteArray.mk_append_mk ByteArray.extract_mk
set_option maxHeartbeats 400000 in
theorem nib_Pack_bad (s : List UInt8) (leaf : Bool) (w : World) (hs : s.length ≤ 1048576) (hf : Nib.fit s = false) :
    Calls Tryz.prog 159 #[.string ⟨s.toArray⟩, .bool leaf] w fun e w' => e = .returned (.tuple #[.string ⟨#[]⟩, .int .i64 3]) ∧ Below w.heap.size w w' := by
  have HF := Lib.hid hf
  clear hf
  go_enter Tryz.func159, Tryz.ntmps159
  go_wp2_with fail
  refine (nib_Fit s _ hs).mono ?_
  rintro e w1 ⟨rfl, rfl⟩
  rw [HF.out]
  go_wp2
  go_ret2
  exact ⟨rfl, Below.refl _ _⟩
set_option maxHeartbeats 400000 in
theorem nib_Pack_even (s : List UInt8) (leaf : Bool) (w : World) (hs : s.length ≤ 1048576) (hf : Nib.fit s = true) (hp : s.length % 2 = 0) :
    Calls Tryz.prog 159 #[.string ⟨s.toArray⟩, .bool leaf] w fun e w' => e = .returned (.tuple #[.string ⟨((if leaf then 32 else 0) :: Nib.joined s).toArray⟩, .int .i64 0]) ∧ Below w.heap.size w w' := by
  have HF := Lib.hid hf
  clear hf
  have hq : (((s.length : Nat) : Int) % 2 == 1) = false := by rw [beq_eq_false_iff_ne]; omega
  have hjl := Nib.joined_length s
  have HJ : (Nib.joined s).length ≤ 1048576 := by omega
  clear hjl
  cases leaf
  · go_enter Tryz.func159, Tryz.ntmps159
    go_wp2_with fail
    refine (nib_Fit s _ hs).mono ?_
    rintro e w1 ⟨rfl, rfl⟩
    rw [HF.out]
    have hc1 := fun W => conv1 W 0 (by omega) (by omega)
    have hc2 := fun W => conv1d W 0 (by omega) (by omega)
    have hc3 := fun w1 => conv1_below w w1 0 (by omega) (by omega)
    go_wp2_with fail
    go_region_with (go_at_call 146; refine (nib_joined s _ hs HF.out).mono ?_; rintro e w1 ⟨rfl, hb⟩; try simp only [World.size_drew, World.size_alloc] at hb; have hbw : Below w.heap.size w w1 := (by first | exact hb | exact hb.start | exact ((Below.refl _ _).alloc (Nat.le_refl _) _).drew.trans (hb.mono (by simp))); have hsz1 := hbw.size)
    all_goals go_wp2
    all_goals go_ret2
    all_goals exact ⟨rfl, by go_grown⟩
  · go_enter Tryz.func159, Tryz.ntmps159
    go_wp2_with fail
    refine (nib_Fit s _ hs).mono ?_
    rintro e w1 ⟨rfl, rfl⟩
    rw [HF.out]
    have hc1 := fun W => conv1 W 32 (by omega) (by omega)
    have hc2 := fun W => conv1d W 32 (by omega) (by omega)
    have hc3 := fun w1 => conv1_below w w1 32 (by omega) (by omega)
    go_wp2_with fail
    go_region_with (go_at_call 146; refine (nib_joined s _ hs HF.out).mono ?_; rintro e w1 ⟨rfl, hb⟩; try simp only [World.size_drew, World.size_alloc] at hb; have hbw : Below w.heap.size w w1 := (by first | exact hb | exact hb.start | exact ((Below.refl _ _).alloc (Nat.le_refl _) _).drew.trans (hb.mono (by simp))); have hsz1 := hbw.size)
    all_goals go_wp2
    all_goals go_ret2
    all_goals exact ⟨rfl, by go_grown⟩
set_option maxHeartbeats 400000 in
theorem nib_Pack_odd (a : UInt8) (s : List UInt8) (leaf : Bool) (w : World) (hs : s.length ≤ 1048575) (hf : Nib.fit (a :: s) = true) (hp : (a :: s).length % 2 = 1) :
    Calls Tryz.prog 159 #[.string ⟨(a :: s).toArray⟩, .bool leaf] w fun e w' => e = .returned (.tuple #[.string ⟨((if leaf then 48 + a else 16 + a) :: Nib.joined s).toArray⟩, .int .i64 0]) ∧ Below w.heap.size w w' := by
  have ha : a ≤ 15 := by unfold Nib.fit at hf; simp at hf; exact hf.1
  have hf2 : Nib.fit s = true := by unfold Nib.fit at hf ⊢; simp at hf ⊢; exact hf.2
  have HF := Lib.hid hf
  have HF2 := Lib.hid hf2
  clear hf hf2
  have hp' : (s.length + 1) % 2 = 1 := by simpa using hp
  have hq : ((((s.length : Nat) : Int) + 1) % 2 == 1) = true := by rw [beq_iff_eq]; omega
  have hjl := Nib.joined_length s
  have HJ : (Nib.joined s).length ≤ 1048576 := by omega
  obtain ⟨o1, o2, o3⟩ := u8_or16 a ha
  have ha' : a.toNat ≤ 15 := by rw [UInt8.le_iff_toNat_le] at ha; simpa using ha
  have HS : (a :: s).length ≤ 1048576 := by simp; omega
  have e16 : UInt8.ofNat (16 + a.toNat) = 16 + a := by simp
  have e48 : UInt8.ofNat (48 + a.toNat) = 48 + a := by simp
  have E := Lib.hid (And.intro e16 e48)
  clear hjl hp hp' ha e16 e48
  generalize hb16 : (16 + a.toNat : Nat) = b16 at o1 o2 o3
  generalize hb48 : (48 + a.toNat : Nat) = b48 at o3
  have h16 : b16 < 256 := by omega
  have h48 : b48 < 256 := by omega
  have B := Lib.hid (And.intro hb16 hb48)
  clear hb16 hb48
  cases leaf
  · go_enter Tryz.func159, Tryz.ntmps159
    go_wp2_with fail
    refine (nib_Fit (a :: s) _ HS).mono ?_
    rintro e w1 ⟨rfl, rfl⟩
    rw [HF.out]
    have hc1 := fun W => conv1 W (b16 : Int) (by omega) (by omega)
    have hc2 := fun W => conv1d W (b16 : Int) (by omega) (by omega)
    have hc3 := fun w1 => conv1_below w w1 (b16 : Int) (by omega) (by omega)
    go_wp2_with fail
    go_region_with (go_at_call 146; refine (nib_joined s _ (by omega) HF2.out).mono ?_; rintro e w1 ⟨rfl, hb⟩; try simp only [World.size_drew, World.size_alloc] at hb; have hbw : Below w.heap.size w w1 := (by first | exact hb | exact hb.start | exact ((Below.refl _ _).alloc (Nat.le_refl _) _).drew.trans (hb.mono (by simp))); have hsz1 := hbw.size)
    all_goals go_wp2
    all_goals go_ret2
    all_goals have e1 : UInt8.ofNat b16 = 16 + a := by rw [← B.out.1]; exact E.out.1
    all_goals exact ⟨by rw [e1]; rfl, by go_grown⟩
  · go_enter Tryz.func159, Tryz.ntmps159
    go_wp2_with fail
    refine (nib_Fit (a :: s) _ HS).mono ?_
    rintro e w1 ⟨rfl, rfl⟩
    rw [HF.out]
    have hc1 := fun W => conv1 W (b48 : Int) (by omega) (by omega)
    have hc2 := fun W => conv1d W (b48 : Int) (by omega) (by omega)
    have hc3 := fun w1 => conv1_below w w1 (b48 : Int) (by omega) (by omega)
    go_wp2_with fail
    go_region_with (go_at_call 146; refine (nib_joined s _ (by omega) HF2.out).mono ?_; rintro e w1 ⟨rfl, hb⟩; try simp only [World.size_drew, World.size_alloc] at hb; have hbw : Below w.heap.size w w1 := (by first | exact hb | exact hb.start | exact ((Below.refl _ _).alloc (Nat.le_refl _) _).drew.trans (hb.mono (by simp))); have hsz1 := hbw.size)
    all_goals go_wp2
    all_goals go_ret2
    all_goals have e1 : UInt8.ofNat b48 = 48 + a := by rw [← B.out.2]; exact E.out.2
    all_goals exact ⟨by rw [e1]; rfl, by go_grown⟩
theorem nib_Pack (s : List UInt8) (leaf : Bool) (w : World) (hs : s.length ≤ 1048575) :
    Calls Tryz.prog 159 #[.string ⟨s.toArray⟩, .bool leaf] w fun e w' => e = .returned (.tuple #[.string ⟨(Nib.pack s leaf).1.toArray⟩, .int .i64 (Nib.pack s leaf).2]) ∧ Below w.heap.size w w' := by
  by_cases hf : Nib.fit s = true
  · by_cases hp : s.length % 2 = 1
    · obtain ⟨a, r, rfl⟩ : ∃ a r, s = a :: r := by
        cases s with
        | nil => simp at hp
        | cons a r => exact ⟨a, r, rfl⟩
      have e : Nib.pack (a :: r) leaf = ((if leaf then 48 + a else 16 + a) :: Nib.joined r, 0) := by
        unfold Nib.pack; rw [if_pos hf, Nib.packed_odd hp]
      rw [e]
      exact nib_Pack_odd a r leaf w (by simp at hs; omega) hf hp
    · have e : Nib.pack s leaf = ((if leaf then 32 else 0) :: Nib.joined s, 0) := by
        unfold Nib.pack; rw [if_pos hf, Nib.packed_even (by omega)]
      rw [e]
      exact nib_Pack_even s leaf w (by omega) hf (by omega)
  · have e : Nib.pack s leaf = ([], 3) := by unfold Nib.pack; rw [if_neg hf]
    rw [e]
    exact nib_Pack_bad s leaf w (by omega) (by simpa using hf)
end Go.Proofs.YtcjafcbekegmlaaGreatDoor

namespace Go.Proofs.YtcjafcbekegmlaaGreatDoor
set_option linter.unusedVariables false
open Go.RowKit
attribute [local go_sem] ba_get ByteArray.mk_append_mk ByteArray.extract_mk
theorem nib_Unpack_nil (w : World) :
    Calls Tryz.prog 141 #[.string ⟨#[]⟩] w fun e w' => e = .returned (.tuple #[.string ⟨#[]⟩, .bool false, .int .i64 3]) ∧ Below w.heap.size w w' := by
  go_enter Tryz.func141, Tryz.ntmps141
  go_wp2
  go_ret3
  exact ⟨rfl, Below.refl _ _⟩
set_option maxHeartbeats 400000 in
theorem nib_Unpack_cons (b : UInt8) (r : List UInt8) (w : World) (hs : r.length ≤ 2000) :
    Calls Tryz.prog 141 #[.string ⟨(b :: r).toArray⟩] w fun e w' => e = .returned (.tuple #[.string ⟨(Nib.unpack (b :: r)).1.toArray⟩, .bool (Nib.unpack (b :: r)).2.1, .int .i64 (Nib.unpack (b :: r)).2.2]) ∧ Below w.heap.size w w' := by
  have hlt := b.toNat_lt
  have h15 := u8_and15 b
  obtain ⟨a1, a2⟩ := u8_and12 b
  have hq : IntKind.u8.wrap ((b.toNat : Int) / 16) = (b.toNat : Int) / 16 := IntWalk.u8_in _ (by omega)
  have hol := Nib.of_length r
  have HO : (Nib.of r).length ≤ 4000 := by omega
  have hc := fun W => conv1 W ((b.toNat : Int) % 16) (by omega) (by omega)
  clear hol
  obtain ⟨m1, hm1⟩ : ∃ m1, m1 = b.toNat / 16 % 2 := ⟨_, rfl⟩
  obtain ⟨m2, hm2⟩ : ∃ m2, m2 = b.toNat / 16 / 2 % 2 * 2 := ⟨_, rfl⟩
  rw [← hm1] at a1
  rw [← hm2] at a2
  rw [Nib.unpack_cons]
  by_cases h1 : 3 < b.toNat / 16
  · have hk : 3 < (b.toNat : Int) / 16 := by omega
    rw [if_pos (.inl h1)]
    clear h1 hm1 hm2
    go_enter Tryz.func141, Tryz.ntmps141
    go_wp2
    go_quiet (fail)
    go_wp2
    go_ret3
    exact ⟨rfl, below_drewN (Below.refl _ _) _⟩
  · have hk : ¬ 3 < (b.toNat : Int) / 16 := by omega
    have ho2 : (((m2 : Nat) : Int) != 0) = decide (2 ≤ b.toNat / 16) := by
      by_cases h : 2 ≤ b.toNat / 16
      · rw [decide_eq_true h, bne_iff_ne]; omega
      · rw [decide_eq_false h]; simp; omega
    by_cases h2 : b.toNat / 16 % 2 = 1
    · rw [if_neg (by omega), if_pos h2]
      have ho1 : (((m1 : Nat) : Int) != 0) = true := by rw [bne_iff_ne]; omega
      have O2 := Lib.hid ho2
      clear h1 h2 hm1 hm2 ho2
      go_enter Tryz.func141, Tryz.ntmps141
      go_wp2
      go_quiet (fail)
      go_wp2_with fail
      refine (nib_Of r _ (by omega)).mono ?_
      rintro e w1 ⟨rfl, hb⟩
      go_wp2
      go_ret3
      rw [← O2.out]
      exact ⟨rfl, ((hb.trans ((Below.refl _ _).alloc hb.size _)).start_drewN)⟩
    · have ho1 : (((m1 : Nat) : Int) != 0) = false := by simp; omega
      have O2 := Lib.hid ho2
      by_cases h3 : b.toNat % 16 = 0
      · rw [if_neg (by omega), if_neg h2]
        have hz : (((b.toNat : Int) % 16) != 0) = false := by simp; omega
        clear h1 h2 hm1 hm2 ho2 h3
        go_enter Tryz.func141, Tryz.ntmps141
        go_wp2
        go_quiet (fail)
        go_wp2_with fail
        refine (nib_Of r _ (by omega)).mono ?_
        rintro e w1 ⟨rfl, hb⟩
        go_wp2
        go_ret3
        rw [← O2.out]
        exact ⟨rfl, hb.start_drewN⟩
      · rw [if_pos (.inr ⟨by omega, h3⟩)]
        have hz : (((b.toNat : Int) % 16) != 0) = true := by rw [bne_iff_ne]; omega
        clear h1 h2 hm1 hm2 ho2 h3
        go_enter Tryz.func141, Tryz.ntmps141
        go_wp2
        go_quiet (fail)
        go_wp2
        go_ret3
        exact ⟨rfl, below_drewN (Below.refl _ _) _⟩
theorem nib_Unpack (s : List UInt8) (w : World) (hs : s.length ≤ 2001) :
    Calls Tryz.prog 141 #[.string ⟨s.toArray⟩] w fun e w' => e = .returned (.tuple #[.string ⟨(Nib.unpack s).1.toArray⟩, .bool (Nib.unpack s).2.1, .int .i64 (Nib.unpack s).2.2]) ∧ Below w.heap.size w w' := by
  cases s with
  | nil => exact nib_Unpack_nil w
  | cons b r => exact nib_Unpack_cons b r w (by simp at hs; omega)
end Go.Proofs.YtcjafcbekegmlaaGreatDoor

namespace Go.Proofs.YtcjafcbekegmlaaGreatDoor
set_option linter.unusedVariables false
open Go.RowKit Go.Instr
attribute [local go_sem] ba_get ByteArray.mk_append_mk
def pathOk (p : List UInt8) (least : Nat) : Bool := Nib.fit p && decide (least ≤ p.length ∧ p.length ≤ 16)
set_option maxRecDepth 100000 in
theorem node_path (p : List UInt8) (least : Nat) (hl : least ≤ 1) (hp : p.length ≤ 1048576) (w : World) :
    Calls Tryz.prog 143 #[.string ⟨p.toArray⟩, .int .i64 (least : Int)] w fun e w' => e = .returned (.bool (pathOk p least)) ∧ w = w' := by
  have HF := nib_Fit p w hp
  have HP : Hid (∀ b w', pathOk p least = b → w = w' → (fun e w' => e = Ending.returned (.bool (pathOk p least)) ∧ w = w') (Ending.returned (.bool b)) w') := Lib.hid (fun b w' e hb => ⟨by rw [e], hb⟩)
  generalize (fun e w' => e = Ending.returned (.bool (pathOk p least)) ∧ w = w') = P at HP ⊢
  unfold pathOk at HP
  cases hf : Nib.fit p with
  | false =>
    rw [hf] at HF HP
    go_enter Tryz.func143, Tryz.ntmps143
    go_wp2_with fail
    refine HF.mono ?_
    rintro e w1 ⟨rfl, rfl⟩
    go_wp2
    exact HP.out _ _ (by simp) rfl
  | true =>
    rw [hf] at HF HP
    by_cases h1 : least ≤ p.length
    · have h1' : (least : Int) ≤ p.length := by omega
      by_cases h2 : p.length ≤ 16
      · have h2' : (p.length : Int) ≤ 16 := by omega
        go_enter Tryz.func143, Tryz.ntmps143
        go_wp2_with fail
        refine HF.mono ?_
        rintro e w1 ⟨rfl, rfl⟩
        go_wp2
        exact HP.out _ _ (by simp [h1, h2]) rfl
      · have h2' : ((p.length : Int) ≤ 16) = False := by simp; omega
        go_enter Tryz.func143, Tryz.ntmps143
        go_wp2_with fail
        refine HF.mono ?_
        rintro e w1 ⟨rfl, rfl⟩
        go_wp2
        exact HP.out _ _ (by simp [h2]) rfl
    · have h1' : ((least : Int) ≤ p.length) = False := by simp; omega
      go_enter Tryz.func143, Tryz.ntmps143
      go_wp2_with fail
      refine HF.mono ?_
      rintro e w1 ⟨rfl, rfl⟩
      go_wp2
      exact HP.out _ _ (by simp [h1]) rfl
def strv (l : List (List UInt8)) : List Value := l.map fun s => .string ⟨s.toArray⟩
theorem strv_length (l : List (List UInt8)) : (strv l).length = l.length := by simp [strv]
theorem strv_at {l : List (List UInt8)} {i : Nat} (h : i < l.length) : (strv l)[i]? = some (.string ⟨l[i].toArray⟩) := by
  simp [strv, h]
def sumsOk (l : List (List UInt8)) : Bool := l.all fun s => decide (s.length = 32)
set_option maxRecDepth 100000 in
theorem node_sums (l : List (List UInt8)) (hl : l.length ≤ 1000) (w : World) (A : Option Addr) (c : Nat) (HR : Reads w w.heap.size 1 A l.length (strv l)) :
    Calls Tryz.prog 144 #[.slice A l.length c] w fun e w' => e = .returned (.bool (sumsOk l)) ∧ w = w' := by
  go_enter Tryz.func144, Tryz.ntmps144
  go_wp2
  refine wp_loop_ghost_k (fun k a wr => ∀ Φ : Act → Prop, (∀ (s0 s1 s2 s3 s4 s8 s9 s10 s11 s12 s13 s14 : Value) (i : Nat), (i + k = l.length ∧ sumsOk (l.take i) = true ∧ wr = w) → Φ { tmps := #[s0, s1, s2, s3, s4, .slice A l.length c, .int .i64 l.length, .int .i64 i, s8, s9, s10, s11, s12, s13, s14], defers := [] }) → Φ a) (l.length) ?_ ?_
  · refine fun Φ hΦ => hΦ _ _ _ _ _ _ _ _ _ _ _ _ (0) ?_
    exact ⟨by omega, rfl, rfl⟩
  · intro k1 a1 wr1 hI1 J1 K1 hJ1 hK1
    refine hI1 (fun a => Code.wp _ _ _ a _) ?_
    clear hI1 a1
    intro s0 s1 s2 s3 s4 s5 s6 s7 s8 s9 s10 s11 i hrel
    show Code.wp _ _ _ _ _
    obtain ⟨h1, h2, rfl⟩ := hrel
    by_cases hi : i < l.length
    · obtain ⟨ad, rfl, hbl, hcell⟩ := HR.2 (by omega)
      have q0 := hcell i _ (strv_at hi)
      have hi1 : (i : Int) < l.length := by omega
      have hs : sumsOk (l.take (i + 1)) = decide (l[i].length = 32) := by
        rw [List.take_succ_eq_append_getElem hi]
        unfold sumsOk at *
        rw [List.all_append, h2]
        simp
      have hf : decide (l[i].length = 32) = false → sumsOk l = false := fun h => by
        rw [Bool.eq_false_iff]
        intro hc
        unfold sumsOk at hc
        rw [List.all_eq_true] at hc
        have := hc _ (List.getElem_mem hi)
        rw [h] at this
        cases this
      clear hcell HR
      generalize l[i] = s at *
      by_cases h32 : s.length = 32
      · have e32 : ((s.length : Int) = 32) = True := by simp; omega
        have T := Lib.hid (show sumsOk (l.take (i + 1)) = true from hs.trans (by simp [h32]))
        clear hs hf
        go_wp2
        refine Handed.intro (l.length - (i + 1)) ?_ (hJ1 _ _ _ (fun Φ hΦ => hΦ _ _ _ _ _ _ _ _ _ _ _ _ (i + 1) ?_))
        · omega
        · exact ⟨by omega, T.out, rfl⟩
      · have e32 : ((s.length : Int) = 32) = False := by simp; omega
        have T := Lib.hid (hf (by simp [h32]))
        clear hs hf
        go_wp2
        go_ret
        exact ⟨ret_bool T.out.symm, rfl⟩
    · have e : l.take i = l := List.take_of_length_le (by omega)
      have hi2 : ((i : Int) < l.length) = False := by simp; omega
      rw [e] at h2
      have E2 := Lib.hid h2
      clear h2 e
      go_wp2
      go_ret
      exact ⟨ret_bool E2.out.symm, rfl⟩
end Go.Proofs.YtcjafcbekegmlaaGreatDoor

namespace Go.Proofs.YtcjafcbekegmlaaGreatDoor
set_option linter.unusedVariables false
open Go.RowKit Go.Instr
attribute [local go_sem] ba_get ByteArray.mk_append_mk
def kidsW (K : List (List UInt8)) : List (List UInt8) := K.filter fun s => !s.isEmpty
theorem kidsW_snoc (K : List (List UInt8)) (i : Nat) (h : i < K.length) : kidsW (K.take (i + 1)) = kidsW (K.take i) ++ (if K[i].isEmpty then [] else [K[i]]) := by
  rw [List.take_succ_eq_append_getElem h]
  unfold kidsW
  rw [List.filter_append]
  cases h2 : K[i].isEmpty <;> simp [h2]
theorem info_str : (Tryz.prog.info? 9).map (fun i => (i.zero, i.size, i.bytes)) = some (some (.string ⟨#[]⟩), 1, 16) := by kernel_rfl
theorem size_arr : (Tryz.prog.info? 105).map (·.size) = some 16 := by kernel_rfl
theorem strv_one (l : List (List UInt8)) : ∀ u ∈ strv l, u.oneCell' = true := by
  intro u hu
  simp only [strv, List.mem_map] at hu
  obtain ⟨x, _, rfl⟩ := hu
  rfl
theorem run_index_k (K : List (List UInt8)) (hK : K.length = 16) (i : Nat) (hi : i < 16) (w : World) : (Instr.index 105 (.agg (strv K).toArray) (.int .i64 (i : Int))).run Tryz.prog w = .ok (.string ⟨(K.getD i []).toArray⟩) w := by
  have a0 := Tryz.isAgg9
  have z0 := Tryz.sizeOf9
  have e : (strv K)[i]? = some (.string ⟨(K.getD i []).toArray⟩) := by
    rw [strv_at (show i < K.length by omega), List.getD_eq_getElem?_getD, List.getElem?_eq_getElem (show i < K.length by omega)]
    rfl
  simp [Instr.index, asIntOf, run_underlying Tryz.underlying105, part, a0, z0, hi, e]
set_option maxRecDepth 100000 in
theorem kids_loop (w w0 : World) (K : List (List UInt8)) (hK : K.length = 16) (hb : Below w.heap.size w w0)
    (Q : Exit → Act → World → Prop)
    (hQ : ∀ (s0 s1 s2 s4 s5 s6 s7 s8 s9 s10 s11 s12 s13 s14 s15 s16 s17 s18 : Value) (A : Option Addr) (c n : Nat) (w2 : World), n = (kidsW K).length → w2.ownsRow w.heap.size 9 1 (.slice A n c) n (strv (kidsW K)) → Below w.heap.size w w2 → Q (.exit 0) { tmps := #[s0, s1, s2, .slice A n c, s4, s5, s6, s7, s8, s9, s10, s11, s12, s13, s14, s15, s16, s17, s18], defers := [] } w2)
    (s0 s1 s2 s4 s5 s6 s9 s10 s11 s12 s13 s14 s15 s16 s17 s18 : Value) :
    Code.wp Tryz.prog (.loop (loopAt Tryz.f142 0)) Q { tmps := #[s0, s1, s2, .slice none 0 0, s4, s5, s6, .agg (strv K).toArray, .int .i64 0, s9, s10, s11, s12, s13, s14, s15, s16, s17, s18], defers := [] } w0 := by
  have HQ := Lib.hid hQ
  clear hQ
  refine wp_loop_ghost_k (fun k a wr => ∀ Φ : Act → Prop, (∀ (s0 s1 s2 s4 s5 s6 s9 s10 s11 s12 s13 s14 s15 s16 s17 s18 : Value) (i n c : Nat) (A : Option Addr), (i + k = 16 ∧ n = (kidsW (K.take i)).length ∧ n ≤ i ∧ wr.ownsRow w.heap.size 9 1 (.slice A n c) n (strv (kidsW (K.take i))) ∧ Below w.heap.size w wr) → Φ { tmps := #[s0, s1, s2, .slice A n c, s4, s5, s6, .agg (strv K).toArray, .int .i64 i, s9, s10, s11, s12, s13, s14, s15, s16, s17, s18], defers := [] }) → Φ a) (16) ?_ ?_
  · refine fun Φ hΦ => hΦ _ _ _ _ _ _ _ _ _ _ _ _ _ _ _ _ (0) (0) (0) (none) ?_
    exact ⟨by omega, by simp [kidsW], by omega, by simpa [kidsW, strv] using World.ownsRow_nil _ _ _ _, hb⟩
  · intro k1 a1 wr1 hI1 J1 K1 hJ1 hK1
    refine hI1 (fun a => Code.wp _ _ _ a _) ?_
    clear hI1 a1
    intro s0 s1 s2 s3 s4 s5 s6 s7 s8 s9 s10 s11 s12 s13 s14 s15 i n c A hrel
    show Code.wp _ _ _ _ _
    conv => arg 2; whnf
    obtain ⟨h1, h2, h3, own, hb⟩ := hrel
    by_cases hi : i < 16
    · have hi1 : (i : Int) < 16 := by omega
      have HX := fun w => run_index_k K hK i hi w
      have hks := kidsW_snoc K i (by omega)
      have hg : K.getD i [] = K[i]'(by omega) := by rw [List.getD_eq_getElem?_getD, List.getElem?_eq_getElem (show i < K.length by omega)]; rfl
      rw [← hg] at hks
      generalize K.getD i [] = s at *
      clear hg
      have HI := Lib.hid (And.intro h1 (And.intro h2 (And.intro h3 hb)))
      have HK := Lib.hid hks
      have hn16 : n ≤ 16 := by omega
      generalize kidsW (K.take i) = D at *
      cases s with
      | nil =>
        have O := Lib.hid own
        clear own h1 h2 h3 hb hks
        go_wp2
        refine Handed.intro (16 - (i + 1)) ?_ (hJ1 _ _ _ (fun Φ hΦ => hΦ _ _ _ _ _ _ _ _ _ _ _ _ _ _ _ _ (i + 1) (n) (c) (A) ?_))
        · have := HI.out.1
          omega
        · rw [HK.out]
          simp only [List.isEmpty_nil, if_true, List.append_nil]
          exact ⟨by have := HI.out.1; omega, HI.out.2.1, by have := HI.out.2.2.1; omega, O.out, HI.out.2.2.2⟩
      | cons a t =>
        have ne1 : ((a :: t).toArray = #[]) = False := by simp
        have hone : ∀ u ∈ [Value.string ⟨(a :: t).toArray⟩], u.oneCell' = true := by intro u hu; rw [List.mem_singleton] at hu; subst hu; rfl
        clear h1 h2 h3 hks
        have se : (a :: t).isEmpty = false := rfl
        generalize hs : (a :: t) = s at *
        go_wp2_with (at_builtin; refine wpList_append_new wr1 9 [.string ⟨s.toArray⟩] rfl _ _ 23 rfl w.heap.size 1 16 _ info_str Tryz.underlying23 rfl (by decide) (.slice A n c) n (strv D) rfl own 1 1 rfl rfl hone (by simp only [maxLen]; omega) (by omega) w.heap.size w hb (Nat.le_refl _) hb.size ?_; intro v3 w3 own3 hb3 _ _ _; obtain ⟨A3, c3, rfl, _, _, _⟩ := own_form own3; have O3 := Lib.hid own3; clear own3)
        refine Handed.intro (16 - (i + 1)) ?_ (hJ1 _ _ _ (fun Φ hΦ => hΦ _ _ _ _ _ _ _ _ _ _ _ _ _ _ _ _ (i + 1) (n + 1) (c3) (A3) ?_))
        · have := HI.out.1
          omega
        · rw [HK.out, se]
          simp only [Bool.false_eq_true, if_false]
          refine ⟨by have := HI.out.1; omega, by rw [List.length_append, ← HI.out.2.1]; rfl, by have := HI.out.2.2.1; omega, ?_, hb3⟩
          rw [show strv (D ++ [s]) = strv D ++ [.string ⟨s.toArray⟩] by simp [strv]]
          exact O3.out
    · have e16 : i = 16 := by omega
      subst e16
      rw [List.take_of_length_le (by omega)] at h2 own
      have O := Lib.hid (And.intro own hb)
      clear own hb
      go_wp2
      exact HQ.out _ _ _ _ _ _ _ _ _ _ _ _ _ _ _ _ _ _ _ _ _ _ h2 O.out.1 O.out.2
def KidsEnd (w : World) (K : List (List UInt8)) (e : Ending) (w' : World) : Prop :=
  ∃ A c n, e = .returned (.slice A n c) ∧ n = (kidsW K).length ∧ w'.ownsRow w.heap.size 9 1 (.slice A n c) n (strv (kidsW K)) ∧ Below w.heap.size w w'
set_option maxRecDepth 100000 in
theorem node_Kids (w : World) (nk np nv : Value) (h1 : nk.oneCell' = true) (h2 : np.oneCell' = true) (h3 : nv.oneCell' = true) (K : List (List UInt8)) (hK : K.length = 16) :
    Calls Tryz.prog 142 #[.agg (nk :: np :: nv :: strv K).toArray] w (KidsEnd w K) := by
  have HP : Hid (∀ A c n w', n = (kidsW K).length → w'.ownsRow w.heap.size 9 1 (.slice A n c) n (strv (kidsW K)) → Below w.heap.size w w' → KidsEnd w K (.returned (.slice A n c)) w') := Lib.hid (fun A c n w' g1 g2 g3 => ⟨A, c, n, rfl, g1, g2, g3⟩)
  have hsz : (strv K).length = 16 := by rw [strv_length, hK]
  generalize KidsEnd w K = P at HP ⊢
  go_enter Tryz.func142, Tryz.ntmps142
  have SZ : (Tryz.prog.info? 105).map (·.size) = some (strv K).length := by rw [hsz]; exact size_arr
  have RNG : (w.alloc (.cells (nk :: np :: nv :: strv K).toArray 107)).rangeAt w.heap.size 3 (strv K) := fun j v hv => by
    rw [World.cell?_alloc_at _ _ _ _ rfl]
    rw [show 3 + j = j + 1 + 1 + 1 by omega]
    simpa using hv
  go_upto_region 2 with fail
  go_upto_region 3 with (refine wpList_load_mid rfl 105 _ rfl w.heap.size 3 rfl (strv K) _ RNG Tryz.underlying105 rfl SZ ?_)
  refine kids_loop w (w.alloc (.cells (nk :: np :: nv :: strv K).toArray 107)) K hK (by go_grown) _ ?_ _ _ _ _ _ _ _ _ _ _ _ _ _ _ _ _
  intro s0 s1 s2 s4 s5 s6 s7 s8 s9 s10 s11 s12 s13 s14 s15 s16 s17 s18 A c n w2 g1 g2 g3
  go_wp2
  exact HP.out _ _ _ _ g1 g2 g3
end Go.Proofs.YtcjafcbekegmlaaGreatDoor
