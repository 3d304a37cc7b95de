import Derived.Test.YtcjafcbekegmlaaGreatDoorJ22
import Derived.Test.YtcjafcbekegmlaaGreatDoorJ24
import Derived.Test.YtcjafcbekegmlaaGreatDoorJ07
import Derived.Test.YtcjafcbekegmlaaGreatDoorJ18
import Derived.Test.YtcjafcbekegmlaaGreatDoorJ13
set_option linter.unusedSimpArgs false
set_option linter.unusedVariables false
namespace Go.Proofs.YtcjafcbekegmlaaGreatDoor
set_option linter.unusedVariables false
open Go.RowKit Go.Instr
attribute [local go_sem] ba_get ByteArray.mk_append_mk
def StepEnd (w : World) (r : List UInt8 × List UInt8) (e : Ending) (w' : World) : Prop := e = .returned (.tuple #[.string ⟨r.1.toArray⟩, .string ⟨r.2.toArray⟩]) ∧ Below w.heap.size w w'
theorem stepW_eq (k : Nat) (p v : List UInt8) (K : List (List UInt8)) (left : List UInt8) : stepW (k, p, v, K) left = if Nib.common p left ≠ p.length then ([], [])
  else if k = 2 then (K.getD 0 [], left.drop p.length)
  else if k = 1 ∧ p.length < left.length then ([], [])
  else if k = 1 ∨ left = [] then ([], v)
  else if K.getD (left.headD 0).toNat [] = [] then ([], [])
  else (K.getD (left.headD 0).toNat [], left.tail) := rfl
set_option maxRecDepth 100000 in
set_option maxHeartbeats 2000000 in
theorem proof_step (w : World) (k : Nat) (p v : List UInt8) (K : List (List UInt8)) (hK : K.length = 16) (left : List UInt8) (hp : p.length ≤ 100000) (hl : left.length ≤ 100000) (hf : Nib.fit left = true) :
    Calls Tryz.prog 107 #[.agg (nodeV k p v K).toArray, .string ⟨left.toArray⟩] w (StepEnd w (stepW (k, p, v, K) left)) := by
  have HP : Hid (∀ a b w', stepW (k, p, v, K) left = (a, b) → Below w.heap.size w w' → StepEnd w (stepW (k, p, v, K) left) (.returned (.tuple #[.string ⟨a.toArray⟩, .string ⟨b.toArray⟩])) w') := Lib.hid (fun a b w' e h => by rw [e]; exact ⟨rfl, h⟩)
  generalize StepEnd w (stepW (k, p, v, K) left) = P at HP ⊢
  have HX := Lib.hid (stepW_eq k p v K left)
  generalize stepW (k, p, v, K) left = X at *
  have HCm : Hid (∀ W, Calls Tryz.prog 106 #[.string ⟨p.toArray⟩, .string ⟨left.toArray⟩] W fun e w' => e = .returned (.int .i64 (Nib.common p left : Int)) ∧ Below W.heap.size W w') := Lib.hid (fun W => nib_Common p left W (by omega) (by omega))
  have HK := Lib.hid hK
  have hle := Nib.common_le p left
  clear hK
  by_cases hc : Nib.common p left = p.length
  · rw [if_neg (by simpa using hc)] at HX
    have hpl : p.length ≤ left.length := by omega
    rw [hc] at HCm
    have hcI : ((p.length : Int) == (p.length : Int)) = true := by simp
    by_cases h2 : k = 2
    · subst h2
      rw [if_pos rfl] at HX
      have hd := run_drop left p.length hpl
      generalize left.drop p.length = lr at *
      clear hle hc hpl hf hp hl
      go_enter Tryz.func107, Tryz.ntmps107
      go_upto_region 1 with fail
      obtain ⟨nb, hnb⟩ : ∃ nb, w.heap.size = nb := ⟨_, rfl⟩
      have hb0 : Hid (Blk (w.alloc (.cells (nodeV 2 p v K).toArray 107)) nb 107 (nodeV 2 p v K).toArray ∧ Below w.heap.size w (w.alloc (.cells (nodeV 2 p v K).toArray 107))) := Lib.hid (by subst hnb; exact ⟨Blk.new _ _ _, by go_grown⟩)
      rw [hnb]
      generalize w.alloc (.cells (nodeV 2 p v K).toArray 107) = W0 at hb0 ⊢
      clear hnb
      have c1 : W0.cell? ⟨nb, 1, none⟩ = some (.string ⟨p.toArray⟩) := hb0.out.1.cell 1
      go_region_held3 (fun w' => w'.cell? ⟨nb, 1, none⟩ = some (.string ⟨p.toArray⟩)) (first | go_keep | assumption) ((go_at_call 106; refine (HCm.out _).mono ?_; rintro e w1 ⟨rfl, hb⟩; have B1 : Below W0.heap.size W0 w1 := (by first | exact hb | exact hb.start); have d1 : w1.cell? ⟨nb, 1, none⟩ = some (.string ⟨p.toArray⟩) := (B1.cell (p := ⟨nb, 1, none⟩) hb0.out.1.lt).trans c1; clear hb))
      have B2 := Lib.hid (hb0.out.1.below B1 hb0.out.1.lt)
      have BB : Hid (Below w.heap.size w w1) := Lib.hid (hb0.out.2.nxt B1)
      have c0 : w1.cell? ⟨nb, 0, none⟩ = some (.int .i64 (2 : Int)) := B2.out.cell 0
      have c2 : w1.cell? ⟨nb, 2, none⟩ = some (.string ⟨v.toArray⟩) := B2.out.cell 2
      have c3 : ∀ i, i < 16 → w1.cell? ⟨nb, 3 + i, none⟩ = some (.string ⟨(K.getD i []).toArray⟩) := fun i hi => by
        rw [B2.out.cell, List.getElem?_toArray, show 3 + i = i + 1 + 1 + 1 by omega]
        unfold nodeV
        rw [List.getElem?_cons_succ, List.getElem?_cons_succ, List.getElem?_cons_succ, strv_at (by rw [HK.out]; exact hi), List.getD_eq_getElem?_getD, List.getElem?_eq_getElem (by rw [HK.out]; exact hi)]
        rfl
      have HC3 := Lib.hid c3
      clear c3 c1 hb0 B1
      have c3 := HC3.out 0 (by omega)
      go_wp2_with fail
      go_quiet (fail)
      go_wp2_with fail
      exact HP.out _ _ _ HX.out (below_drewN BB.out _)
    · rw [if_neg h2] at HX
      have h2I : ((k : Int) == 2) = false := by simp; omega
      by_cases h1 : k = 1
      · subst h1
        by_cases hlt : p.length < left.length
        · rw [if_pos ⟨rfl, hlt⟩] at HX
          have hI : (p.length : Int) < left.length := by omega
          clear hle hc hpl hf hlt h2 h2I
          go_enter Tryz.func107, Tryz.ntmps107
          go_upto_region 1 with fail
          obtain ⟨nb, hnb⟩ : ∃ nb, w.heap.size = nb := ⟨_, rfl⟩
          have hb0 : Hid (Blk (w.alloc (.cells (nodeV 1 p v K).toArray 107)) nb 107 (nodeV 1 p v K).toArray ∧ Below w.heap.size w (w.alloc (.cells (nodeV 1 p v K).toArray 107))) := Lib.hid (by subst hnb; exact ⟨Blk.new _ _ _, by go_grown⟩)
          rw [hnb]
          generalize w.alloc (.cells (nodeV 1 p v K).toArray 107) = W0 at hb0 ⊢
          clear hnb
          have c1 : W0.cell? ⟨nb, 1, none⟩ = some (.string ⟨p.toArray⟩) := hb0.out.1.cell 1
          go_region_held3 (fun w' => w'.cell? ⟨nb, 1, none⟩ = some (.string ⟨p.toArray⟩)) (first | go_keep | assumption) ((go_at_call 106; refine (HCm.out _).mono ?_; rintro e w1 ⟨rfl, hb⟩; have B1 : Below W0.heap.size W0 w1 := (by first | exact hb | exact hb.start); have d1 : w1.cell? ⟨nb, 1, none⟩ = some (.string ⟨p.toArray⟩) := (B1.cell (p := ⟨nb, 1, none⟩) hb0.out.1.lt).trans c1; clear hb))
          have B2 := Lib.hid (hb0.out.1.below B1 hb0.out.1.lt)
          have BB : Hid (Below w.heap.size w w1) := Lib.hid (hb0.out.2.nxt B1)
          have c0 : w1.cell? ⟨nb, 0, none⟩ = some (.int .i64 (1 : Int)) := B2.out.cell 0
          have c2 : w1.cell? ⟨nb, 2, none⟩ = some (.string ⟨v.toArray⟩) := B2.out.cell 2
          have c3 : ∀ i, i < 16 → w1.cell? ⟨nb, 3 + i, none⟩ = some (.string ⟨(K.getD i []).toArray⟩) := fun i hi => by
            rw [B2.out.cell, List.getElem?_toArray, show 3 + i = i + 1 + 1 + 1 by omega]
            unfold nodeV
            rw [List.getElem?_cons_succ, List.getElem?_cons_succ, List.getElem?_cons_succ, strv_at (by rw [HK.out]; exact hi), List.getD_eq_getElem?_getD, List.getElem?_eq_getElem (by rw [HK.out]; exact hi)]
            rfl
          have HC3 := Lib.hid c3
          clear c3 c1 hb0 B1
          go_wp2_with fail
          exact HP.out _ _ _ HX.out BB.out
        · rw [if_neg (fun h => hlt h.2), if_pos (.inl rfl)] at HX
          have hI : ((p.length : Int) < left.length) = False := by simp; omega
          clear hle hc hpl hf hlt h2 h2I
          go_enter Tryz.func107, Tryz.ntmps107
          go_upto_region 1 with fail
          obtain ⟨nb, hnb⟩ : ∃ nb, w.heap.size = nb := ⟨_, rfl⟩
          have hb0 : Hid (Blk (w.alloc (.cells (nodeV 1 p v K).toArray 107)) nb 107 (nodeV 1 p v K).toArray ∧ Below w.heap.size w (w.alloc (.cells (nodeV 1 p v K).toArray 107))) := Lib.hid (by subst hnb; exact ⟨Blk.new _ _ _, by go_grown⟩)
          rw [hnb]
          generalize w.alloc (.cells (nodeV 1 p v K).toArray 107) = W0 at hb0 ⊢
          clear hnb
          have c1 : W0.cell? ⟨nb, 1, none⟩ = some (.string ⟨p.toArray⟩) := hb0.out.1.cell 1
          go_region_held3 (fun w' => w'.cell? ⟨nb, 1, none⟩ = some (.string ⟨p.toArray⟩)) (first | go_keep | assumption) ((go_at_call 106; refine (HCm.out _).mono ?_; rintro e w1 ⟨rfl, hb⟩; have B1 : Below W0.heap.size W0 w1 := (by first | exact hb | exact hb.start); have d1 : w1.cell? ⟨nb, 1, none⟩ = some (.string ⟨p.toArray⟩) := (B1.cell (p := ⟨nb, 1, none⟩) hb0.out.1.lt).trans c1; clear hb))
          have B2 := Lib.hid (hb0.out.1.below B1 hb0.out.1.lt)
          have BB : Hid (Below w.heap.size w w1) := Lib.hid (hb0.out.2.nxt B1)
          have c0 : w1.cell? ⟨nb, 0, none⟩ = some (.int .i64 (1 : Int)) := B2.out.cell 0
          have c2 : w1.cell? ⟨nb, 2, none⟩ = some (.string ⟨v.toArray⟩) := B2.out.cell 2
          have c3 : ∀ i, i < 16 → w1.cell? ⟨nb, 3 + i, none⟩ = some (.string ⟨(K.getD i []).toArray⟩) := fun i hi => by
            rw [B2.out.cell, List.getElem?_toArray, show 3 + i = i + 1 + 1 + 1 by omega]
            unfold nodeV
            rw [List.getElem?_cons_succ, List.getElem?_cons_succ, List.getElem?_cons_succ, strv_at (by rw [HK.out]; exact hi), List.getD_eq_getElem?_getD, List.getElem?_eq_getElem (by rw [HK.out]; exact hi)]
            rfl
          have HC3 := Lib.hid c3
          clear c3 c1 hb0 B1
          go_wp2_with fail
          go_quiet (fail)
          go_wp2_with fail
          exact HP.out _ _ _ HX.out (below_drewN BB.out _)
      · rw [if_neg (fun h => h1 h.1)] at HX
        have h1I : ((k : Int) == 1) = false := by simp; omega
        cases left with
        | nil =>
          rw [if_pos (.inr rfl)] at HX
          clear hle hc hpl hf h1 h2
          go_enter Tryz.func107, Tryz.ntmps107
          go_upto_region 1 with fail
          obtain ⟨nb, hnb⟩ : ∃ nb, w.heap.size = nb := ⟨_, rfl⟩
          have hb0 : Hid (Blk (w.alloc (.cells (nodeV k p v K).toArray 107)) nb 107 (nodeV k p v K).toArray ∧ Below w.heap.size w (w.alloc (.cells (nodeV k p v K).toArray 107))) := Lib.hid (by subst hnb; exact ⟨Blk.new _ _ _, by go_grown⟩)
          rw [hnb]
          generalize w.alloc (.cells (nodeV k p v K).toArray 107) = W0 at hb0 ⊢
          clear hnb
          have c1 : W0.cell? ⟨nb, 1, none⟩ = some (.string ⟨p.toArray⟩) := hb0.out.1.cell 1
          go_region_held3 (fun w' => w'.cell? ⟨nb, 1, none⟩ = some (.string ⟨p.toArray⟩)) (first | go_keep | assumption) ((go_at_call 106; refine (HCm.out _).mono ?_; rintro e w1 ⟨rfl, hb⟩; have B1 : Below W0.heap.size W0 w1 := (by first | exact hb | exact hb.start); have d1 : w1.cell? ⟨nb, 1, none⟩ = some (.string ⟨p.toArray⟩) := (B1.cell (p := ⟨nb, 1, none⟩) hb0.out.1.lt).trans c1; clear hb))
          have B2 := Lib.hid (hb0.out.1.below B1 hb0.out.1.lt)
          have BB : Hid (Below w.heap.size w w1) := Lib.hid (hb0.out.2.nxt B1)
          have c0 : w1.cell? ⟨nb, 0, none⟩ = some (.int .i64 (k : Int)) := B2.out.cell 0
          have c2 : w1.cell? ⟨nb, 2, none⟩ = some (.string ⟨v.toArray⟩) := B2.out.cell 2
          have c3 : ∀ i, i < 16 → w1.cell? ⟨nb, 3 + i, none⟩ = some (.string ⟨(K.getD i []).toArray⟩) := fun i hi => by
            rw [B2.out.cell, List.getElem?_toArray, show 3 + i = i + 1 + 1 + 1 by omega]
            unfold nodeV
            rw [List.getElem?_cons_succ, List.getElem?_cons_succ, List.getElem?_cons_succ, strv_at (by rw [HK.out]; exact hi), List.getD_eq_getElem?_getD, List.getElem?_eq_getElem (by rw [HK.out]; exact hi)]
            rfl
          have HC3 := Lib.hid c3
          clear c3 c1 hb0 B1
          go_wp2_with fail
          go_quiet (fail)
          go_wp2_with fail
          exact HP.out _ _ _ HX.out (below_drewN BB.out _)
        | cons b r =>
          rw [if_neg (by simp [h1])] at HX
          obtain ⟨hb15, _⟩ := Nib.fit_cons hf
          have hb16 : b.toNat < 16 := by rw [UInt8.le_iff_toNat_le] at hb15; simp at hb15; omega
          have hbI : (b.toNat : Int) < 16 := by omega
          have hb0 : (0 : Int) ≤ b.toNat := by omega
          have HTl := run_tail b r
          have ne1 : ((b :: r).toArray = #[]) = False := by simp
          have ne2 : (b :: r).isEmpty = false := rfl
          have hix : ∀ W, (Instr.index 9 (.string ⟨(b :: r).toArray⟩) (.int .i64 0)).run Tryz.prog W = .ok (.int .u8 (b.toNat : Int)) W := fun W => run_byte (b :: r) 0 (by simp) W
          have HX2 : Hid (X = if K.getD b.toNat [] = [] then ([], []) else (K.getD b.toNat [], r)) := Lib.hid HX.out
          clear hle hc hpl hf h1 h2 HX hb15
          generalize hl' : (b :: r) = left at *
          clear hl'
          have HB16 := Lib.hid hb16
          clear hb16
          go_enter Tryz.func107, Tryz.ntmps107
          go_upto_region 1 with fail
          obtain ⟨nb, hnb⟩ : ∃ nb, w.heap.size = nb := ⟨_, rfl⟩
          have hb0 : Hid (Blk (w.alloc (.cells (nodeV k p v K).toArray 107)) nb 107 (nodeV k p v K).toArray ∧ Below w.heap.size w (w.alloc (.cells (nodeV k p v K).toArray 107))) := Lib.hid (by subst hnb; exact ⟨Blk.new _ _ _, by go_grown⟩)
          rw [hnb]
          generalize w.alloc (.cells (nodeV k p v K).toArray 107) = W0 at hb0 ⊢
          clear hnb
          have c1 : W0.cell? ⟨nb, 1, none⟩ = some (.string ⟨p.toArray⟩) := hb0.out.1.cell 1
          go_region_held3 (fun w' => w'.cell? ⟨nb, 1, none⟩ = some (.string ⟨p.toArray⟩)) (first | go_keep | assumption) ((go_at_call 106; refine (HCm.out _).mono ?_; rintro e w1 ⟨rfl, hb⟩; have B1 : Below W0.heap.size W0 w1 := (by first | exact hb | exact hb.start); have d1 : w1.cell? ⟨nb, 1, none⟩ = some (.string ⟨p.toArray⟩) := (B1.cell (p := ⟨nb, 1, none⟩) hb0.out.1.lt).trans c1; clear hb))
          have B2 := Lib.hid (hb0.out.1.below B1 hb0.out.1.lt)
          have BB : Hid (Below w.heap.size w w1) := Lib.hid (hb0.out.2.nxt B1)
          have c0 : w1.cell? ⟨nb, 0, none⟩ = some (.int .i64 (k : Int)) := B2.out.cell 0
          have c2 : w1.cell? ⟨nb, 2, none⟩ = some (.string ⟨v.toArray⟩) := B2.out.cell 2
          have c3 : ∀ i, i < 16 → w1.cell? ⟨nb, 3 + i, none⟩ = some (.string ⟨(K.getD i []).toArray⟩) := fun i hi => by
            rw [B2.out.cell, List.getElem?_toArray, show 3 + i = i + 1 + 1 + 1 by omega]
            unfold nodeV
            rw [List.getElem?_cons_succ, List.getElem?_cons_succ, List.getElem?_cons_succ, strv_at (by rw [HK.out]; exact hi), List.getD_eq_getElem?_getD, List.getElem?_eq_getElem (by rw [HK.out]; exact hi)]
            rfl
          have HC3 := Lib.hid c3
          clear c3 c1 hb0 B1
          have c3 := HC3.out b.toNat HB16.out
          generalize K.getD b.toNat [] = kd at *
          generalize b.toNat = bn at *
          by_cases hkd : kd = []
          · subst hkd
            rw [if_pos rfl] at HX2
            go_wp2_with fail
            exact HP.out _ _ _ HX2.out BB.out
          · rw [if_neg hkd] at HX2
            have ne3 : (kd.toArray = #[]) = False := by simp [hkd]
            have ne4 : kd.isEmpty = false := by simp [hkd]
            clear hkd
            go_wp2_with fail
            go_quiet (fail)
            go_wp2_with fail
            exact HP.out _ _ _ HX2.out (below_drewN BB.out _)
  · rw [if_pos hc] at HX
    have hcI : ((Nib.common p left : Int) == (p.length : Int)) = false := by simp; omega
    clear hle hc hf
    generalize Nib.common p left = cm at *
    go_enter Tryz.func107, Tryz.ntmps107
    go_upto_region 1 with fail
    obtain ⟨nb, hnb⟩ : ∃ nb, w.heap.size = nb := ⟨_, rfl⟩
    have hb0 : Hid (Blk (w.alloc (.cells (nodeV k p v K).toArray 107)) nb 107 (nodeV k p v K).toArray ∧ Below w.heap.size w (w.alloc (.cells (nodeV k p v K).toArray 107))) := Lib.hid (by subst hnb; exact ⟨Blk.new _ _ _, by go_grown⟩)
    rw [hnb]
    generalize w.alloc (.cells (nodeV k p v K).toArray 107) = W0 at hb0 ⊢
    clear hnb
    have c1 : W0.cell? ⟨nb, 1, none⟩ = some (.string ⟨p.toArray⟩) := hb0.out.1.cell 1
    go_region_held3 (fun w' => w'.cell? ⟨nb, 1, none⟩ = some (.string ⟨p.toArray⟩)) (first | go_keep | assumption) ((go_at_call 106; refine (HCm.out _).mono ?_; rintro e w1 ⟨rfl, hb⟩; have B1 : Below W0.heap.size W0 w1 := (by first | exact hb | exact hb.start); have d1 : w1.cell? ⟨nb, 1, none⟩ = some (.string ⟨p.toArray⟩) := (B1.cell (p := ⟨nb, 1, none⟩) hb0.out.1.lt).trans c1; clear hb))
    have B2 := Lib.hid (hb0.out.1.below B1 hb0.out.1.lt)
    have BB : Hid (Below w.heap.size w w1) := Lib.hid (hb0.out.2.nxt B1)
    have c0 : w1.cell? ⟨nb, 0, none⟩ = some (.int .i64 (k : Int)) := B2.out.cell 0
    have c2 : w1.cell? ⟨nb, 2, none⟩ = some (.string ⟨v.toArray⟩) := B2.out.cell 2
    have c3 : ∀ i, i < 16 → w1.cell? ⟨nb, 3 + i, none⟩ = some (.string ⟨(K.getD i []).toArray⟩) := fun i hi => by
      rw [B2.out.cell, List.getElem?_toArray, show 3 + i = i + 1 + 1 + 1 by omega]
      unfold nodeV
      rw [List.getElem?_cons_succ, List.getElem?_cons_succ, List.getElem?_cons_succ, strv_at (by rw [HK.out]; exact hi), List.getD_eq_getElem?_getD, List.getElem?_eq_getElem (by rw [HK.out]; exact hi)]
      rfl
    have HC3 := Lib.hid c3
    clear c3 c1 hb0 B1
    go_wp2_with fail
    exact HP.out _ _ _ HX.out BB.out
end Go.Proofs.YtcjafcbekegmlaaGreatDoor

namespace Go.Proofs.YtcjafcbekegmlaaGreatDoor
set_option linter.unusedVariables false
open Go.RowKit Go.Instr
attribute [local go_sem] ba_get ByteArray.mk_append_mk
attribute [local go_sem ↓] Go.wp_at_zero Go.wp_at_succ
theorem few_cell {w : World} {B : Nat} {A : Option Addr} {l : List (List UInt8)} (h : Reads w B 1 A l.length (strv l)) {i : Nat} (hi : i < l.length) :
    ∃ ad off, A = some ⟨ad, off, none⟩ ∧ ad < B ∧ ∀ w', Below B w w' → w'.cell? ⟨ad, off + i, none⟩ = some (.string ⟨l[i].toArray⟩) := by
  obtain ⟨ad, off, rfl, hbl, hcell⟩ := h.form (by omega) (by omega)
  refine ⟨ad, off, rfl, hbl, fun w' hb => ?_⟩
  have q := hcell i (by rw [strv_length]; exact hi)
  have e := strv_at hi
  rw [List.getElem?_eq_getElem (by rw [strv_length]; exact hi)] at e
  rw [Option.some.inj e] at q
  exact (hb.cell (p := ⟨ad, off + i, none⟩) hbl).trans q
def fewW (l : List (List UInt8)) (n each : Nat) : Bool := decide (l.length ≤ n) && l.all fun s => decide (s.length ≤ each)
set_option maxRecDepth 100000 in
theorem book_Few (w : World) (A : Option Addr) (c : Nat) (l : List (List UInt8)) (n each : Nat) (HR : Reads w w.heap.size 1 A l.length (strv l)) (hn : n ≤ 100000) (he : each ≤ 100000) :
    Calls Tryz.prog 7 #[.slice A l.length c, .int .i64 (n : Int), .int .i64 (each : Int)] w (Ret w (.bool (fewW l n each))) := by
  have HP : Hid (∀ r w', fewW l n each = r → Below w.heap.size w w' → Ret w (.bool (fewW l n each)) (Ending.returned (.bool r)) w') := Lib.hid (fun r W' a1 a2 => ⟨by rw [a1], a2⟩)
  have HC : Hid (fewW l n each = (decide (l.length ≤ n) && l.all fun s => decide (s.length ≤ each))) := Lib.hid rfl
  generalize Ret w (.bool (fewW l n each)) = P at HP ⊢
  generalize fewW l n each = lw at *
  have HRR := Lib.hid HR
  clear HR
  by_cases hln : n < l.length
  · have hI : (n : Int) < l.length := by omega
    have HF : Hid (lw = false) := Lib.hid (by rw [HC.out, decide_eq_false (by omega)]; rfl)
    go_enter Tryz.func7, Tryz.ntmps7
    go_wp2_with fail
    exact HP.out _ _ HF.out (Below.refl _ _)
  · have hI : ((n : Int) < l.length) = False := by simp; omega
    have HC2 : Hid (lw = l.all fun s => decide (s.length ≤ each)) := Lib.hid (by rw [HC.out, decide_eq_true (by omega)]; rfl)
    have hln' : l.length ≤ n := by omega
    clear HC hln
    go_enter Tryz.func7, Tryz.ntmps7
    go_wp2_with fail
    refine wp_loop_ghost_k (fun k a wr => ∀ Φ : Act → Prop, (∀ (s1 s3 s4 s5 s6 s8 s9 s10 s11 s12 s13 s14 s15 s16 s17 s18 s19 s20 s21 s22 s23 s24 : Value) (i : Nat), (i + k = l.length ∧ (l.all fun s => decide (s.length ≤ each)) = ((l.drop i).all fun s => decide (s.length ≤ each)) ∧ Below w.heap.size w wr) → Φ { tmps := #[.slice A l.length c, s1, .int .i64 (each : Int), s3, s4, s5, s6, .int .i64 (i : Int), s8, s9, s10, s11, s12, s13, s14, s15, s16, s17, s18, s19, s20, s21, s22, s23, s24], defers := [] }) → Φ a) (l.length) ?_ ?_
    · refine fun Φ hΦ => hΦ _ _ _ _ _ _ _ _ _ _ _ _ _ _ _ _ _ _ _ _ _ _ (0) ?_
      exact ⟨by omega, rfl, Below.refl _ _⟩
    · intro k1 a1 wr1 hI1 J1 K1 hJ1 hK1
      refine hI1 (fun a => Code.wp _ _ _ a _) ?_
      clear hI1 a1
      intro s0 s1 s2 s3 s4 s5 s6 s7 s8 s9 s10 s11 s12 s13 s14 s15 s16 s17 s18 s19 s20 s21 i hrel
      show Code.wp _ _ _ _ _
      obtain ⟨h1, h2, hb⟩ := hrel
      by_cases hi : i < l.length
      · obtain ⟨ad, off, rfl, hbl, hcell⟩ := few_cell HRR.out hi
        have r0 := hcell _ hb
        have hd : l.drop i = l[i] :: l.drop (i + 1) := List.drop_eq_getElem_cons hi
        have HI := Lib.hid (And.intro h1 (And.intro h2 (And.intro hb hd)))
        have hi0 : (i : Int) < l.length := by omega
        have hi1 : (0 : Int) ≤ i := by omega
        clear h1 h2 hb hd hcell hbl
        generalize l[i] = x at *
        by_cases hk : each < x.length
        · have hk' : (each : Int) < x.length := by omega
          have HF : Hid (lw = false) := Lib.hid (by rw [HC2.out, HI.out.2.1, HI.out.2.2.2, List.all_cons, decide_eq_false (by omega)]; rfl)
          clear hk
          go_wp2_with fail
          exact HP.out _ _ HF.out HI.out.2.2.1
        · have hk' : ((each : Int) < x.length) = False := by simp; omega
          have HF : Hid (decide (x.length ≤ each) = true) := Lib.hid (decide_eq_true (by omega))
          clear hk
          go_wp2_with fail
          refine Handed.intro (l.length - (i + 1)) ?_ (hJ1 _ _ _ (fun Φ hΦ => hΦ _ _ _ _ _ _ _ _ _ _ _ _ _ _ _ _ _ _ _ _ _ _ (i + 1) ?_))
          · have := HI.out.1; omega
          exact ⟨by have := HI.out.1; omega, by rw [HI.out.2.1, HI.out.2.2.2, List.all_cons, HF.out]; rfl, HI.out.2.2.1⟩
      · have hi0 : ((i : Int) < l.length) = False := by simp; omega
        have HI := Lib.hid (And.intro h2 (And.intro hb (show l.drop i = [] from List.drop_of_length_le (by omega))))
        clear h1 h2 hb
        go_wp2_with fail
        exact HP.out _ _ (by rw [HC2.out, HI.out.1, HI.out.2.2]; rfl) HI.out.2.1
end Go.Proofs.YtcjafcbekegmlaaGreatDoor

namespace Go.Proofs.YtcjafcbekegmlaaGreatDoor
set_option linter.unusedVariables false
open Go.RowKit Go.Instr
attribute [local go_sem] ba_get ByteArray.mk_append_mk
def FollowEnd (w : World) (r : List UInt8 × Nat × Bool) (e : Ending) (w' : World) : Prop := e = .returned (.tuple #[.string ⟨r.1.toArray⟩, .int .i64 (r.2.1 : Int), .bool r.2.2]) ∧ Below w.heap.size w w'
theorem step_rest {n : Nd} {l : List UInt8} (h : (stepW n l).1 ≠ []) (hf : Nib.fit l = true) : Nib.fit (stepW n l).2 = true ∧ (stepW n l).2.length ≤ l.length := by
  obtain ⟨k, p, v, K⟩ := n
  rw [stepW_eq] at h ⊢
  split at h
  · exact absurd rfl h
  rename_i h1
  rw [if_neg h1]
  split at h
  · rename_i h2
    rw [if_pos h2]
    exact ⟨Trie.fit_drop _ hf, by rw [List.length_drop]; omega⟩
  rename_i h2
  rw [if_neg h2]
  split at h
  · exact absurd rfl h
  rename_i h3
  rw [if_neg h3]
  split at h
  · exact absurd rfl h
  rename_i h4
  rw [if_neg h4]
  split at h
  · exact absurd rfl h
  rename_i h5
  rw [if_neg h5]
  cases l with
  | nil => exact ⟨rfl, Nat.le_refl _⟩
  | cons b r => exact ⟨(Nib.fit_cons hf).2, by simp⟩
theorem decN_small (s : List UInt8) : (decN s).1.2.1.length ≤ 16 ∧ (decN s).1.2.2.2.length = 16 := by
  rcases decN_cases s with h | ⟨n, h, h1, h2, _⟩
  · rw [h]; exact ⟨Nat.zero_le _, rfl⟩
  · rw [h]
    exact ⟨(fineN_parts h2).2.2.1, h1⟩
set_option maxRecDepth 100000 in
set_option maxHeartbeats 2000000 in
theorem proof_follow (w : World) (sought left : List UInt8) (nodes : List (List UInt8)) (A : Option Addr) (c : Nat) (HR : Reads w w.heap.size 1 A nodes.length (strv nodes)) (hn : nodes.length ≤ 100000) (hs : ∀ x ∈ nodes, x.length ≤ 999999) (hl : left.length ≤ 100000) (hf : Nib.fit left = true) (hT : Tbl w) :
    Calls Tryz.prog 71 #[.string ⟨sought.toArray⟩, .string ⟨left.toArray⟩, .slice A nodes.length c] w (FollowEnd w (followW sought left nodes 0)) := by
  have HP : Hid (∀ (v : List UInt8) (t : Nat) b w', followW sought left nodes 0 = (v, t, b) → Below w.heap.size w w' → FollowEnd w (followW sought left nodes 0) (.returned (.tuple #[.string ⟨v.toArray⟩, .int .i64 (t : Int), .bool b])) w') := Lib.hid (fun v t b w' e h => by rw [e]; exact ⟨rfl, h⟩)
  generalize FollowEnd w (followW sought left nodes 0) = P at HP ⊢
  have H0 : Hid (followW sought left nodes 0 = followW sought left (nodes.drop 0) 0) := Lib.hid rfl
  generalize followW sought left nodes 0 = X at *
  have HRR := Lib.hid HR
  have HS := Lib.hid hs
  have HTb := Lib.hid hT
  have HL := Lib.hid (And.intro hn hl)
  have HF0 := Lib.hid hf
  clear HR hs hT hf hn hl
  go_enter Tryz.func71, Tryz.ntmps71
  go_wp2_with fail
  refine wp_scope_ghost 0 (fun _ _ _ => False) rfl ?_ (fun _ _ _ h => h.elim)
  intro K0 hK0
  go_wp2_with fail
  go_step3
  go_wp2_with fail
  refine wp_loop_ghost_k (fun k a wr => ∀ Φ : Act → Prop, (∀ (s2 s3 s4 s5 s6 s8 s9 s10 s11 s12 s13 s14 s15 s16 s20 s21 s22 s23 s24 s25 s26 s27 s28 s29 s30 s31 s32 s33 s34 s35 s36 s37 s38 s39 s40 s41 s42 s43 s44 s45 s46 s47 s48 s49 s50 s51 s52 s53 s54 s55 : Value) (i : Nat) (s l : List UInt8), (i + k = nodes.length ∧ X = followW s l (nodes.drop i) i ∧ Nib.fit l = true ∧ l.length ≤ 100000 ∧ Below w.heap.size w wr) → Φ { tmps := #[.string ⟨s.toArray⟩, .string ⟨l.toArray⟩, s2, s3, s4, s5, s6, .int .i64 (i : Int), s8, s9, s10, s11, s12, s13, s14, s15, s16, .slice A nodes.length c, .int .i64 nodes.length, .int .i64 (i : Int), s20, s21, s22, s23, s24, s25, s26, s27, s28, s29, s30, s31, s32, s33, s34, s35, s36, s37, s38, s39, s40, s41, s42, s43, s44, s45, s46, s47, s48, s49, s50, s51, s52, s53, s54, s55], defers := [] }) → Φ a) (nodes.length) ?_ ?_
  · refine fun Φ hΦ => hΦ _ _ _ _ _ _ _ _ _ _ _ _ _ _ _ _ _ _ _ _ _ _ _ _ _ _ _ _ _ _ _ _ _ _ _ _ _ _ _ _ _ _ _ _ _ _ _ _ _ _ (0) (sought) (left) ?_
    exact ⟨by omega, H0.out, HF0.out, HL.out.2, Below.refl _ _⟩
  · intro k1 a1 wr1 hI1 J1 K1 hJ1 hK1
    refine hI1 (fun a => Code.wp _ _ _ a _) ?_
    clear hI1 a1
    intro s0 s1 s2 s3 s4 s5 s6 s7 s8 s9 s10 s11 s12 s13 s14 s15 s16 s17 s18 s19 s20 s21 s22 s23 s24 s25 s26 s27 s28 s29 s30 s31 s32 s33 s34 s35 s36 s37 s38 s39 s40 s41 s42 s43 s44 s45 s46 s47 s48 s49 i s l hrel
    show Code.wp _ _ _ _ _
    clear H0 HF0
    obtain ⟨h1, h2, h3, h4, hb⟩ := hrel
    by_cases hi : i < nodes.length
    · obtain ⟨ad, off, rfl, hbl, hcell⟩ := few_cell HRR.out hi
      have r0 := hcell _ hb
      have hd : nodes.drop i = nodes[i] :: nodes.drop (i + 1) := List.drop_eq_getElem_cons hi
      rw [hd, followW_cons] at h2
      have hlen := HS.out _ (List.getElem_mem hi)
      have HI := Lib.hid h1
      have HX := Lib.hid h2
      have HF := Lib.hid (And.intro h3 h4)
      have HB := Lib.hid hb
      have hi0 : (i : Int) < nodes.length := by omega
      have hi1 : (0 : Int) ≤ i := by omega
      have hi2 : (i : Int) ≤ 100000 := by have := HL.out.1; omega
      clear h1 h2 h3 h4 hb hd hcell hbl
      generalize nodes[i] = x at *
      have HSum : Hid (∀ W, Below w.heap.size w W → Calls Tryz.prog 90 #[.int .i64 1, .string ⟨x.toArray⟩] W fun e w' => e = .returned (.tuple #[.string ⟨(shaW (1 :: x)).toArray⟩, .int .i64 0]) ∧ Below W.heap.size W w') := Lib.hid (fun W hW => digest_Sum W 1 (by omega) (by omega) x hlen (HTb.out.next hW))
      have HDec := Lib.hid (fun W => node_Decode W x (by omega))
      have hsm := decN_small x
      generalize shaW (1 :: x) = sm at *
      generalize decN x = dn at *
      obtain ⟨⟨k, p, v, K⟩, dc⟩ := dn
      simp only at HX hsm
      unfold DecNEnd at HDec
      simp only at HDec
      have HStep := Lib.hid (fun W => proof_step W k p v K hsm.2 l (by omega) HF.out.2 HF.out.1)
      have HRest := Lib.hid (fun h => step_rest (n := (k, p, v, K)) (l := l) h HF.out.1)
      have SZ : (Tryz.prog.info? 107).map (·.size) = some (nodeV k p v K).length := by rw [nodeV_size hsm.2]; exact info_node
      have HON := nodeV_one k p v K
      have HSz := Lib.hid (nodeV_size (k := k) (p := p) (v := v) hsm.2)
      generalize stepW (k, p, v, K) l = st at *
      clear hsm hlen
      generalize nodeV k p v K = NV at *
      go_wp2_with fail
      refine (HSum.out _ HB.out).mono ?_
      rintro e w2 ⟨rfl, hb2⟩
      have HB2 := Lib.hid (HB.out.nxt hb2)
      clear hb2
      go_wp2_with fail
      refine (HDec.out _).mono ?_
      rintro e w3 ⟨rfl, hb3⟩
      have F3 : Hid (Live w (w3.alloc (.cells #[.int .i64 0, .string ⟨#[]⟩, .string ⟨#[]⟩, .string ⟨#[]⟩, .string ⟨#[]⟩, .string ⟨#[]⟩, .string ⟨#[]⟩, .string ⟨#[]⟩, .string ⟨#[]⟩, .string ⟨#[]⟩, .string ⟨#[]⟩, .string ⟨#[]⟩, .string ⟨#[]⟩, .string ⟨#[]⟩, .string ⟨#[]⟩, .string ⟨#[]⟩, .string ⟨#[]⟩, .string ⟨#[]⟩, .string ⟨#[]⟩] 107)) [(w3.heap.size, 107, #[.int .i64 0, .string ⟨#[]⟩, .string ⟨#[]⟩, .string ⟨#[]⟩, .string ⟨#[]⟩, .string ⟨#[]⟩, .string ⟨#[]⟩, .string ⟨#[]⟩, .string ⟨#[]⟩, .string ⟨#[]⟩, .string ⟨#[]⟩, .string ⟨#[]⟩, .string ⟨#[]⟩, .string ⟨#[]⟩, .string ⟨#[]⟩, .string ⟨#[]⟩, .string ⟨#[]⟩, .string ⟨#[]⟩, .string ⟨#[]⟩])]) := Lib.hid (Live.one ((HB2.out.nxt hb3).alloc (HB2.out.nxt hb3).size _) (HB2.out.nxt hb3).size (Blk.new _ _ _))
      have TH : (w3.alloc (.cells #[.int .i64 0, .string ⟨#[]⟩, .string ⟨#[]⟩, .string ⟨#[]⟩, .string ⟨#[]⟩, .string ⟨#[]⟩, .string ⟨#[]⟩, .string ⟨#[]⟩, .string ⟨#[]⟩, .string ⟨#[]⟩, .string ⟨#[]⟩, .string ⟨#[]⟩, .string ⟨#[]⟩, .string ⟨#[]⟩, .string ⟨#[]⟩, .string ⟨#[]⟩, .string ⟨#[]⟩, .string ⟨#[]⟩, .string ⟨#[]⟩] 107)).there w3.heap.size 0 NV.toArray.size := by
        rw [show NV.toArray.size = 19 by rw [List.size_toArray]; exact HSz.out]
        exact F3.out.there 0 19 rfl (by decide)
      have SZ2 : (Tryz.prog.info? 107).map (·.size) = some NV.toArray.size := by rw [List.size_toArray]; exact SZ
      clear hb3 r0
      go_upto_region 6 with ((with_reducible refine at_put 31 ?_); refine wpList_store_mid rfl 107 _ _ rfl w3.heap.size 0 NV.toArray rfl rfl TH SZ2 HON ?_)
      have F4 := Live.hall F3 0 NV.toArray.toList rfl HSz.out.symm
      generalize World.setCells _ w3.heap.size 0 _ = W4 at F4 ⊢
      generalize w3.heap.size = nb at F4 ⊢
      clear TH SZ2 F3 HON
      have RA := Blk.range0 (F4.out.blk 0 rfl)
      by_cases hsm : sm = s
      · subst hsm
        have hs1 : (sm == sm) = true := by simp
        by_cases hdc : dc = 0
        · subst hdc
          rw [if_neg (by simp)] at HX
          obtain ⟨nx, rs⟩ := st
          simp only at HX HRest
          by_cases hnx : nx = []
          · subst hnx
            rw [if_pos rfl] at HX
            clear HRest
            go_wp2_with (first | ((with_reducible refine at_op 43 ?_); refine wpList_load_want (by rfl) 107 _ rfl nb 0 rfl _ _ RA Tryz.underlying107 rfl SZ ?_) | fail)
            refine (HStep.out _).mono ?_
            rintro e w5 ⟨rfl, hb5⟩
            have HB5 := Lib.hid (F4.out.b.nxt hb5)
            clear hb5 RA
            go_wp2_with fail
            exact HP.out _ (i + 1) _ _ HX.out HB5.out
          · rw [if_neg hnx] at HX
            have ne1 : (nx.toArray = #[]) = False := by simp [hnx]
            have ne2 : nx.isEmpty = false := by simp [hnx]
            have HRs := Lib.hid (HRest.out hnx)
            clear HRest hnx
            go_wp2_with (first | ((with_reducible refine at_op 43 ?_); refine wpList_load_want (by rfl) 107 _ rfl nb 0 rfl _ _ RA Tryz.underlying107 rfl SZ ?_) | fail)
            refine (HStep.out _).mono ?_
            rintro e w5 ⟨rfl, hb5⟩
            have HB5 := Lib.hid (F4.out.b.nxt hb5)
            clear hb5 RA
            go_wp2_with fail
            refine Handed.intro (nodes.length - (i + 1)) ?_ (hJ1 _ _ _ (fun Φ hΦ => hΦ _ _ _ _ _ _ _ _ _ _ _ _ _ _ _ _ _ _ _ _ _ _ _ _ _ _ _ _ _ _ _ _ _ _ _ _ _ _ _ _ _ _ _ _ _ _ _ _ _ _ (i + 1) (nx) (rs) ?_))
            · have := HI.out; omega
            · exact ⟨by have := HI.out; omega, HX.out, HRs.out.1, Nat.le_trans HRs.out.2 HF.out.2, HB5.out⟩
        · rw [if_pos (.inr hdc)] at HX
          have hdI : ((dc : Int) != 0) = true := by simp; exact hdc
          clear hdc HRest HStep
          go_wp2_with fail
          exact HP.out _ i _ _ HX.out F4.out.b
      · rw [if_pos (.inl hsm)] at HX
        have hs1 : (sm == s) = false := by simp [hsm]
        clear hsm HRest HStep
        go_wp2_with fail
        exact HP.out _ i _ _ HX.out F4.out.b
    · have hi0 : ((i : Int) < nodes.length) = False := by simp; omega
      have HX : Hid (X = ([], i, false)) := Lib.hid (by rw [h2, List.drop_of_length_le (by omega)]; rfl)
      have HB := Lib.hid hb
      clear h1 h2 h3 h4 hb hi
      go_wp2_with fail
      exact HP.out _ i _ _ HX.out HB.out
end Go.Proofs.YtcjafcbekegmlaaGreatDoor

namespace Go.Proofs.YtcjafcbekegmlaaGreatDoor
set_option linter.unusedVariables false
open Go.RowKit Go.Instr
attribute [local go_sem] ba_get ByteArray.mk_append_mk
theorem proof_keyed (key : List UInt8) (hk : key.length ≤ 9223372036854775807) (w : World) :
    Calls Tryz.prog 67 #[.string ⟨key.toArray⟩] w fun e w' => e = .returned (.bool (Trie.keyedW key)) ∧ w = w' := by
  have HP : Hid (∀ b w', Trie.keyedW key = b → w = w' → (fun e w' => e = Ending.returned (.bool (Trie.keyedW key)) ∧ w = w') (Ending.returned (.bool b)) w') := Lib.hid (fun b w' h1 h2 => ⟨by rw [h1], h2⟩)
  generalize (fun e w' => e = Ending.returned (.bool (Trie.keyedW key)) ∧ w = w') = P at HP ⊢
  cases key with
  | nil =>
    go_enter Tryz.func67, Tryz.ntmps67
    go_wp2
    exact HP.out _ _ rfl rfl
  | cons a r =>
    have ne1 : ((a :: r).toArray = #[]) = False := by simp
    by_cases h8 : (a :: r).length ≤ 8
    · have HR : Hid (Trie.keyedW (a :: r) = true) := Lib.hid (by simp [Trie.keyedW]; simpa using h8)
      have e8 : ((a :: r).length : Int) ≤ 8 := by omega
      have ne2 : (a :: r).isEmpty = false := rfl
      clear h8
      generalize ha : (a :: r) = l at *
      clear ha
      go_enter Tryz.func67, Tryz.ntmps67
      go_wp2
      exact HP.out _ _ HR.out rfl
    · have HR : Hid (Trie.keyedW (a :: r) = false) := Lib.hid (by simp [Trie.keyedW]; simp at h8; omega)
      have e8 : (((a :: r).length : Int) ≤ 8) = False := by simp at h8 ⊢; omega
      have ne2 : (a :: r).isEmpty = false := rfl
      clear h8
      generalize ha : (a :: r) = l at *
      clear ha
      go_enter Tryz.func67, Tryz.ntmps67
      go_wp2
      exact HP.out _ _ HR.out rfl
def VerEnd (w : World) (r : List UInt8 × Bool × Nat) (e : Ending) (w' : World) : Prop := e = .returned (.tuple #[.string ⟨r.1.toArray⟩, .bool r.2.1, .int .i64 (r.2.2 : Int)]) ∧ Below w.heap.size w w'
theorem keyed_short {key : List UInt8} (h : Trie.keyedW key = true) : key.length ≤ 8 := by
  unfold Trie.keyedW at h
  simp at h
  exact h.2
set_option maxRecDepth 100000 in
set_option maxHeartbeats 1000000 in
theorem proof_Verify (w : World) (root key : List UInt8) (hk : key.length ≤ 9223372036854775807) (nodes : List (List UInt8)) (A : Option Addr) (c : Nat) (HR : Reads w w.heap.size 1 A nodes.length (strv nodes)) (hn : nodes.length ≤ 100000) (hs : ∀ x ∈ nodes, x.length ≤ 999999) (hT : Tbl w) :
    Calls Tryz.prog 38 #[.string ⟨root.toArray⟩, .string ⟨key.toArray⟩, .slice A nodes.length c] w (VerEnd w (verifyW root key nodes)) := by
  have HP : Hid (∀ (v : List UInt8) b (cd : Nat) w', verifyW root key nodes = (v, b, cd) → Below w.heap.size w w' → VerEnd w (verifyW root key nodes) (.returned (.tuple #[.string ⟨v.toArray⟩, .bool b, .int .i64 (cd : Int)])) w') := Lib.hid (fun v b t w' e h => by rw [e]; exact ⟨rfl, h⟩)
  have HX : Hid (verifyW root key nodes = if Trie.keyedW key = false then ([], false, 1)
  else if root = [] then (if nodes = [] then ([], false, 0) else ([], false, 130))
  else if (followW root (Nib.of key) nodes 0).2.2 = true ∧ (followW root (Nib.of key) nodes 0).2.1 = nodes.length then ((followW root (Nib.of key) nodes 0).1, decide ((followW root (Nib.of key) nodes 0).1 ≠ []), 0)
  else ([], false, 130)) := Lib.hid rfl
  generalize VerEnd w (verifyW root key nodes) = P at HP ⊢
  generalize verifyW root key nodes = X at *
  have HKy := Lib.hid (proof_keyed key hk w)
  cases hkey : Trie.keyedW key with
  | false =>
    rw [if_pos hkey] at HX
    rw [hkey] at HKy
    clear HR hs hT
    go_enter Tryz.func38, Tryz.ntmps38
    go_wp2_with fail
    refine HKy.out.mono ?_
    rintro e w1 ⟨rfl, rfl⟩
    go_wp2_with fail
    exact HP.out _ _ 1 _ HX.out (Below.refl _ _)
  | true =>
    rw [if_neg (by simp [hkey])] at HX
    rw [hkey] at HKy
    have hk8 := keyed_short hkey
    by_cases hr : root = []
    · subst hr
      rw [if_pos rfl] at HX
      clear HR hs hT
      by_cases hnn : nodes = []
      · subst hnn
        rw [if_pos rfl] at HX
        go_enter Tryz.func38, Tryz.ntmps38
        go_wp2_with fail
        refine HKy.out.mono ?_
        rintro e w1 ⟨rfl, rfl⟩
        go_wp2_with fail
        exact HP.out _ _ 0 _ HX.out (Below.refl _ _)
      · rw [if_neg hnn] at HX
        have hpos : (0 : Int) < nodes.length := by have := List.length_pos_iff.2 hnn; omega
        clear hnn
        go_enter Tryz.func38, Tryz.ntmps38
        go_wp2_with fail
        refine HKy.out.mono ?_
        rintro e w1 ⟨rfl, rfl⟩
        go_wp2_with fail
        exact HP.out _ _ 130 _ HX.out (Below.refl _ _)
    · rw [if_neg hr] at HX
      have ne1 : (root.toArray = #[]) = False := by simp [hr]
      have ne2 : root.isEmpty = false := by simp [hr]
      have HOf := Lib.hid (fun W => nib_Of key W (by omega))
      have HFo : Hid (∀ W, Below w.heap.size w W → Calls Tryz.prog 71 #[.string ⟨root.toArray⟩, .string ⟨(Nib.of key).toArray⟩, .slice A nodes.length c] W (FollowEnd W (followW root (Nib.of key) nodes 0))) := Lib.hid (fun W hW =>
        proof_follow W root (Nib.of key) nodes A c ((HR.below hW).more hW.size) hn hs (by rw [Nib.of_length]; omega) (Nib.fit_of key) (hT.next hW))
      have hle := followW_le nodes root (Nib.of key) 0
      generalize followW root (Nib.of key) nodes 0 = fr at *
      obtain ⟨v, t, b⟩ := fr
      simp only at HX HFo hle
      unfold FollowEnd at HFo
      simp only at HFo
      generalize Nib.of key = q at *
      clear HR hs hT hr hk hn hk8 hkey
      go_enter Tryz.func38, Tryz.ntmps38
      go_wp2_with fail
      refine HKy.out.mono ?_
      rintro e w1 ⟨rfl, rfl⟩
      go_wp2_with fail
      refine (HOf.out _).mono ?_
      rintro e w2 ⟨rfl, hb2⟩
      have HB2 := Lib.hid hb2
      clear hb2
      go_wp2_with fail
      refine (HFo.out _ HB2.out).mono ?_
      rintro e w3 ⟨rfl, hb3⟩
      have HB3 := Lib.hid (HB2.out.nxt hb3)
      clear hb3 HKy HOf HFo
      cases b with
      | false =>
        rw [if_neg (by simp)] at HX
        go_wp2_with fail
        exact HP.out _ _ 130 _ HX.out HB3.out
      | true =>
        by_cases ht : t = nodes.length
        · rw [if_pos ⟨rfl, ht⟩] at HX
          have htI : ((t : Int) != (nodes.length : Int)) = false := by simp; omega
          by_cases hv : v = []
          · subst hv
            clear ht hle
            go_wp2_with fail
            exact HP.out _ _ 0 _ HX.out HB3.out
          · rw [decide_eq_true (show v ≠ [] from hv)] at HX
            have ne3 : (v.toArray = #[]) = False := by simp [hv]
            have ne4 : v.isEmpty = false := by simp [hv]
            clear ht hle hv
            go_wp2_with fail
            exact HP.out _ _ 0 _ HX.out HB3.out
        · rw [if_neg (fun h => ht h.2)] at HX
          have htI : ((t : Int) != (nodes.length : Int)) = true := by simp; omega
          clear ht hle
          go_wp2_with fail
          exact HP.out _ _ 130 _ HX.out HB3.out
def TextsCEnd (w : World) (r : List (List UInt8) × Nat) (e : Ending) (w' : World) : Prop :=
  ∃ A n c, e = .returned (.tuple #[.slice A n c, .int .i64 (r.2 : Int)]) ∧ n = r.1.length ∧ w'.ownsRow w.heap.size 9 1 (.slice A n c) n (strv r.1) ∧ Below w.heap.size w w'
def proveW (t : Trie.T) (key : List UInt8) : List (List UInt8) × Nat := if Trie.keyedW key then (toldW (trailW (Nib.of key)) t, 0) else ([], 1)
set_option maxRecDepth 100000 in
set_option maxHeartbeats 1000000 in
theorem proof_Prove (w : World) (t : Trie.T) (v : Value) (h : TrieP w t v) (hc : Trie.count t ≤ 20000) (key : List UInt8) (hk : key.length ≤ 9223372036854775807) :
    Calls Tryz.prog 35 #[v, .string ⟨key.toArray⟩] w (TextsCEnd w (proveW t key)) := by
  have HP : Hid (∀ l (cd : Nat), proveW t key = (l, cd) → ∀ A n c w', n = l.length → w'.ownsRow w.heap.size 9 1 (.slice A n c) n (strv l) → Below w.heap.size w w' → TextsCEnd w (proveW t key) (.returned (.tuple #[.slice A n c, .int .i64 (cd : Int)])) w') := Lib.hid (fun l cd e A n c w' h1 h2 h3 => by rw [e]; exact ⟨A, n, c, rfl, h1, h2, h3⟩)
  generalize TextsCEnd w (proveW t key) = P at HP ⊢
  have HKy := Lib.hid (proof_keyed key hk w)
  have HT := Lib.hid h
  cases hkey : Trie.keyedW key with
  | false =>
    have HE : Hid (proveW t key = ([], 1)) := Lib.hid (by unfold proveW; rw [if_neg (by simp [hkey])])
    rw [hkey] at HKy
    clear h
    go_enter Tryz.func35, Tryz.ntmps35
    go_wp2_with fail
    refine HKy.out.mono ?_
    rintro e w1 ⟨rfl, rfl⟩
    go_wp2_with fail
    exact HP.out [] 1 HE.out none 0 0 _ rfl (World.ownsRow_nil _ _ _ _) (Below.refl _ _)
  | true =>
    have HE : Hid (proveW t key = (toldW (trailW (Nib.of key)) t, 0)) := Lib.hid (by unfold proveW; rw [if_pos hkey])
    rw [hkey] at HKy
    have HTr := Lib.hid (trie_Trail w t v h hc key (by have := keyed_short hkey; omega))
    generalize toldW (trailW (Nib.of key)) t = l at *
    clear h
    go_enter Tryz.func35, Tryz.ntmps35
    go_wp2_with fail
    refine HKy.out.mono ?_
    rintro e w1 ⟨rfl, rfl⟩
    go_wp2_with fail
    refine HTr.out.mono ?_
    rintro e w2 ⟨A, n, c, rfl, h1, h2, h3⟩
    have HH := Lib.hid (And.intro h1 (And.intro h2 h3))
    clear h1 h2 h3
    go_wp2_with fail
    exact HP.out l 0 HE.out A n c _ HH.out.1 HH.out.2.1 HH.out.2.2
end Go.Proofs.YtcjafcbekegmlaaGreatDoor
