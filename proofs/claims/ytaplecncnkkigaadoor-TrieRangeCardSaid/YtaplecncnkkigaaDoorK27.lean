import Derived.Test.YtaplecncnkkigaaDoorK26
import Derived.Test.YtaplecncnkkigaaDoorK24
/- Layer 10's laws: made. No conditions. -/
namespace Go.Proofs.YtaplecncnkkigaaDoor
set_option linter.unusedVariables false
open Go.RowKit Go.Instr
attribute [local go_sem] ba_get ByteArray.mk_append_mk
attribute [local go_sem ↓] Go.wp_at_zero Go.wp_at_succ

namespace Trie
def actW (t : T) (a : Act10) : T :=
  if 1 < a.kind then (if (getW t a.key).2 = 0 then del t (Nib.of a.key) else t)
  else (if putCode a.key a.value = 0 then put t (Nib.of a.key) a.value else t)
def madeW (L : List Act10) : T := (L.take 30).foldl actW .nil
theorem getW_code {t : T} {key : List UInt8} (h : (getW t key).2 = 0) : keyedW key = true ∧ look t (Nib.of key) ≠ [] := by
  unfold getW at h
  split at h
  · rename_i hk
    split at h
    · cases h
    · rename_i hv
      exact ⟨hk, fun e => hv (by rw [e]; rfl)⟩
  · cases h
theorem Good.act {t : T} (h : Good t) (a : Act10) : Good (actW t a) := by
  unfold actW
  split
  · split
    · rename_i hg
      exact h.del (getW_code hg).2
    · exact h
  · split
    · rename_i hp
      obtain ⟨h1, h2, h3⟩ := putCode_zero hp
      exact h.put h1 h2 h3
    · exact h
theorem count_act {t : T} (h : Good t) (a : Act10) : count (actW t a) ≤ count t + 1 := by
  unfold actW
  split
  · split
    · rename_i hg
      have := count_del t (Nib.of a.key) h.wf (Nib.fit_of _) (getW_code hg).2
      omega
    · omega
  · split
    · exact count_put _ _ _
    · omega
end Trie


set_option maxRecDepth 100000 in
set_option maxHeartbeats 1000000 in
theorem law10_made (w : World) (A : Option Addr) (c : Nat) (L : List Act10) (HR : Reads w w.heap.size 3 A L.length (acts L)) (hS : L.any longA = false) (hT : Tbl w) :
    Calls Tryd.prog 35 #[.slice A L.length c] w (NewEnd w (Trie.madeW L)) := by
  have HP : Hid (∀ t' v w', Trie.madeW L = t' → TrieP w' t' v → Below w.heap.size w w' → NewEnd w (Trie.madeW L) (.returned v) w') := Lib.hid (fun t' v w' h1 h2 h3 => ⟨v, rfl, by rw [h1]; exact h2, h3⟩)
  generalize NewEnd w (Trie.madeW L) = P at HP ⊢
  have HRR := Lib.hid HR
  have HS := Lib.hid hS
  have HTb := Lib.hid hT
  clear HR hS hT
  go_enter Tryd.func35, Tryd.ntmps35
  go_wp2_with (go_at_call 28; refine (trie_New _).mono ?_; rintro e w1 ⟨v0, rfl, hk0, hb0⟩; have H0 := Lib.hid (And.intro hk0 hb0); clear hk0 hb0)
  refine wp_loop_ghost_k (fun k a wr => ∀ Φ : Act → Prop, (∀ (s1 s2 s5 s6 s7 s8 s9 s10 s11 s12 s13 s14 s15 s16 s17 s18 s19 s20 s21 s22 s23 s24 s25 s26 s27 s28 s29 s30 s31 s32 s33 s34 s35 s36 s37 s38 s39 s40 s41 s42 s43 s44 s45 s46 s47 s48 s49 s50 s51 s52 : Value) (i : Nat) (t : Trie.T) (v : Value), (i + k = 30 ∧ i ≤ L.length ∧ (L.take i).foldl Trie.actW .nil = t ∧ Trie.count t ≤ i ∧ TrieP wr t v ∧ Below w.heap.size w wr) → Φ { tmps := #[.slice A L.length c, s1, s2, v, .int .i64 (i : Int), s5, s6, s7, s8, s9, s10, s11, s12, s13, s14, s15, s16, s17, s18, s19, s20, s21, s22, s23, s24, s25, s26, s27, s28, s29, s30, s31, s32, s33, s34, s35, s36, s37, s38, s39, s40, s41, s42, s43, s44, s45, s46, s47, s48, s49, s50, s51, s52], defers := [] }) → Φ a) (30) ?_ ?_
  · refine fun Φ hΦ => hΦ _ _ _ _ _ _ _ _ _ _ _ _ _ _ _ _ _ _ _ _ _ _ _ _ _ _ _ _ _ _ _ _ _ _ _ _ _ _ _ _ _ _ _ _ _ _ _ _ _ _ (0) (.nil) (v0) ?_
    exact ⟨by omega, by omega, rfl, by simp [Trie.count], H0.out.1, H0.out.2⟩
  · intro k1 a1 wr1 hI1 J1 K1 hJ1 hK1
    refine hI1 (fun a => Code.wp _ _ _ a _) ?_
    clear hI1 a1
    intro s0 s1 s2 s3 s4 s5 s6 s7 s8 s9 s10 s11 s12 s13 s14 s15 s16 s17 s18 s19 s20 s21 s22 s23 s24 s25 s26 s27 s28 s29 s30 s31 s32 s33 s34 s35 s36 s37 s38 s39 s40 s41 s42 s43 s44 s45 s46 s47 s48 s49 i t v hrel
    show Code.wp _ _ _ _ _
    obtain ⟨h1, h0, h2, h3, hk, hb⟩ := hrel
    by_cases hi : i < L.length ∧ i < 30
    · obtain ⟨hil, hi30⟩ := hi
      obtain ⟨ad, off, rfl, hbl, hcell⟩ := acts_read HRR.out i hil
      have hs : (L.take (i + 1)).foldl Trie.actW .nil = Trie.actW t (L[i]'hil) := by
        rw [List.take_succ_eq_append_getElem hil, List.foldl_append, h2]; rfl
      have hlo : longA (L[i]'hil) = false := by
        have := HS.out
        rw [List.any_eq_false] at this
        simpa using this _ (List.getElem_mem hil)
      have HI := Lib.hid (And.intro h1 (And.intro h3 (And.intro hk (And.intro hb (And.intro hs hil)))))
      have hi0 : (i : Int) < L.length := by omega
      have hi1 : (0 : Int) ≤ i := by omega
      have hi2 : (i : Int) < 30 := by omega
      clear h1 h0 h2 h3 hk hb hbl hs
      generalize L[i] = x at *
      obtain ⟨kind, key, value⟩ := x
      have hlen : key.length ≤ 100 ∧ value.length ≤ 100 := by simp [longA] at hlo; omega
      clear hlo
      have HPut : Hid (∀ W, Below wr1.heap.size wr1 W → Calls Tryd.prog 30 #[v, .string ⟨key.toArray⟩, .string ⟨value.toArray⟩] W (TPutEnd W (Trie.put t (Nib.of key) value) (Trie.putCode key value))) := Lib.hid (fun W hW => by
          exact trie_Put W t v (HI.out.2.2.1.next hW) (by have := HI.out.2.1; omega) (HTb.out.next (HI.out.2.2.2.1.nxt hW)) key value (by omega) (by omega))
      have HDel : Hid (∀ W, Below wr1.heap.size wr1 W → Calls Tryd.prog 32 #[v, .string ⟨key.toArray⟩] W (TPutEnd W (Trie.del t (Nib.of key)) (Trie.getW t key).2)) := Lib.hid (fun W hW => by
          exact trie_Del W t v (HI.out.2.2.1.next hW) (by have := HI.out.2.1; omega) (HTb.out.next (HI.out.2.2.2.1.nxt hW)) key (by omega))
      have HCn : Hid (Trie.count (Trie.actW t ⟨kind, key, value⟩) ≤ i + 1) := Lib.hid (by have := Trie.count_act HI.out.2.2.1.1 ⟨kind, key, value⟩; have := HI.out.2.1; omega)
      by_cases hkd : 1 < kind
      · by_cases hg : (Trie.getW t key).2 = 0
        · have HQ : Hid (Trie.actW t ⟨kind, key, value⟩ = Trie.del t (Nib.of key)) := Lib.hid (by simp [Trie.actW, hkd, hg])
          rw [hg] at HDel
          clear hg hlen
          generalize Trie.put t (Nib.of key) value = t2 at *
          generalize Trie.del t (Nib.of key) = t3 at *
          generalize Trie.putCode key value = pc at *
          have HCells := Lib.hid hcell
          obtain ⟨r0, r1, r2⟩ := HCells.out _ HI.out.2.2.2.1
          clear hcell
          go_upto_region 5 with (fail)
          go_region_held3 (fun w' => w'.cell? ⟨ad, off + i * 3 + 1, none⟩ = some (.string ⟨key.toArray⟩) ∧ w'.cell? ⟨ad, off + i * 3 + 2, none⟩ = some (.string ⟨value.toArray⟩)) (first | go_keep | (constructor <;> assumption)) (first | (go_at_call 30; refine (HPut.out _ (by first | exact Below.refl _ _ | exact (Below.refl _ _).drew)).mono ?_; rintro e w3 ⟨v3, rfl, hb, hk3, hn3⟩; have hb3 : Below wr1.heap.size wr1 w3 := (by first | exact hb | exact hb.start); clear hb; obtain ⟨d0, d1, d2⟩ := HCells.out _ (HI.out.2.2.2.1.nxt hb3)))
          go_wp2_with (go_at_call 32; refine (HDel.out _ hb3).mono ?_; rintro e w4 ⟨v4, rfl, hb4, hk4, hn4⟩)
          refine Handed.intro (30 - (i + 1)) ?_ (hJ1 _ _ _ (fun Φ hΦ => hΦ _ _ _ _ _ _ _ _ _ _ _ _ _ _ _ _ _ _ _ _ _ _ _ _ _ _ _ _ _ _ _ _ _ _ _ _ _ _ _ _ _ _ _ _ _ _ _ _ _ _ (i + 1) (t3) (v4) ?_))
          · have := HI.out.1; omega
          exact ⟨by have := HI.out.1; omega, HI.out.2.2.2.2.2, HI.out.2.2.2.2.1.trans HQ.out, HQ.out ▸ HCn.out, hk4 trivial, HI.out.2.2.2.1.nxt (hb3.nxt hb4)⟩
        · have HQ : Hid (Trie.actW t ⟨kind, key, value⟩ = t) := Lib.hid (by simp [Trie.actW, hkd, hg])
          have hg1 : (((Trie.getW t key).2 : Int) == 0) = false := by simp; exact hg
          clear hg hlen
          generalize (Trie.getW t key).2 = gc at *
          generalize Trie.put t (Nib.of key) value = t2 at *
          generalize Trie.del t (Nib.of key) = t3 at *
          generalize Trie.putCode key value = pc at *
          have HCells := Lib.hid hcell
          obtain ⟨r0, r1, r2⟩ := HCells.out _ HI.out.2.2.2.1
          clear hcell
          go_upto_region 5 with (fail)
          go_region_held3 (fun w' => w'.cell? ⟨ad, off + i * 3 + 1, none⟩ = some (.string ⟨key.toArray⟩) ∧ w'.cell? ⟨ad, off + i * 3 + 2, none⟩ = some (.string ⟨value.toArray⟩)) (first | go_keep | (constructor <;> assumption)) (first | (go_at_call 30; refine (HPut.out _ (by first | exact Below.refl _ _ | exact (Below.refl _ _).drew)).mono ?_; rintro e w3 ⟨v3, rfl, hb, hk3, hn3⟩; have hb3 : Below wr1.heap.size wr1 w3 := (by first | exact hb | exact hb.start); clear hb; obtain ⟨d0, d1, d2⟩ := HCells.out _ (HI.out.2.2.2.1.nxt hb3)))
          go_wp2_with (go_at_call 32; refine (HDel.out _ hb3).mono ?_; rintro e w4 ⟨v4, rfl, hb4, hk4, hn4⟩)
          refine Handed.intro (30 - (i + 1)) ?_ (hJ1 _ _ _ (fun Φ hΦ => hΦ _ _ _ _ _ _ _ _ _ _ _ _ _ _ _ _ _ _ _ _ _ _ _ _ _ _ _ _ _ _ _ _ _ _ _ _ _ _ _ _ _ _ _ _ _ _ _ _ _ _ (i + 1) (t) (v) ?_))
          · have := HI.out.1; omega
          exact ⟨by have := HI.out.1; omega, HI.out.2.2.2.2.2, HI.out.2.2.2.2.1.trans HQ.out, HQ.out ▸ HCn.out, HI.out.2.2.1.next (hb3.nxt hb4), HI.out.2.2.2.1.nxt (hb3.nxt hb4)⟩
      · have hkd' : (1 < kind) = False := by simp; omega
        by_cases hg : Trie.putCode key value = 0
        · have HQ : Hid (Trie.actW t ⟨kind, key, value⟩ = Trie.put t (Nib.of key) value) := Lib.hid (by simp [Trie.actW, hkd, hg])
          rw [hg] at HPut
          clear hg hlen hkd HDel
          generalize Trie.put t (Nib.of key) value = t2 at *
          have HCells := Lib.hid hcell
          obtain ⟨r0, r1, r2⟩ := HCells.out _ HI.out.2.2.2.1
          clear hcell
          go_upto_region 5 with (fail)
          go_region_held3 (fun w' => w'.cell? ⟨ad, off + i * 3 + 1, none⟩ = some (.string ⟨key.toArray⟩) ∧ w'.cell? ⟨ad, off + i * 3 + 2, none⟩ = some (.string ⟨value.toArray⟩)) (first | go_keep | (constructor <;> assumption)) (first | (go_at_call 30; refine (HPut.out _ (by first | exact Below.refl _ _ | exact (Below.refl _ _).drew)).mono ?_; rintro e w3 ⟨v3, rfl, hb, hk3, hn3⟩; have hb3 : Below wr1.heap.size wr1 w3 := (by first | exact hb | exact hb.start); clear hb; obtain ⟨d0, d1, d2⟩ := HCells.out _ (HI.out.2.2.2.1.nxt hb3)))
          go_wp2_with fail
          refine Handed.intro (30 - (i + 1)) ?_ (hJ1 _ _ _ (fun Φ hΦ => hΦ _ _ _ _ _ _ _ _ _ _ _ _ _ _ _ _ _ _ _ _ _ _ _ _ _ _ _ _ _ _ _ _ _ _ _ _ _ _ _ _ _ _ _ _ _ _ _ _ _ _ (i + 1) (t2) (v3) ?_))
          · have := HI.out.1; omega
          exact ⟨by have := HI.out.1; omega, HI.out.2.2.2.2.2, HI.out.2.2.2.2.1.trans HQ.out, HQ.out ▸ HCn.out, hk3 trivial, HI.out.2.2.2.1.nxt (hb3)⟩
        · have HQ : Hid (Trie.actW t ⟨kind, key, value⟩ = t) := Lib.hid (by simp [Trie.actW, hkd, hg])
          have hg1 : ((Trie.putCode key value : Int) == 0) = false := by simp; exact hg
          clear hg hlen hkd HDel
          generalize Trie.put t (Nib.of key) value = t2 at *
          generalize Trie.putCode key value = pc at *
          have HCells := Lib.hid hcell
          obtain ⟨r0, r1, r2⟩ := HCells.out _ HI.out.2.2.2.1
          clear hcell
          go_upto_region 5 with (fail)
          go_region_held3 (fun w' => w'.cell? ⟨ad, off + i * 3 + 1, none⟩ = some (.string ⟨key.toArray⟩) ∧ w'.cell? ⟨ad, off + i * 3 + 2, none⟩ = some (.string ⟨value.toArray⟩)) (first | go_keep | (constructor <;> assumption)) (first | (go_at_call 30; refine (HPut.out _ (by first | exact Below.refl _ _ | exact (Below.refl _ _).drew)).mono ?_; rintro e w3 ⟨v3, rfl, hb, hk3, hn3⟩; have hb3 : Below wr1.heap.size wr1 w3 := (by first | exact hb | exact hb.start); clear hb; obtain ⟨d0, d1, d2⟩ := HCells.out _ (HI.out.2.2.2.1.nxt hb3)))
          go_wp2_with fail
          refine Handed.intro (30 - (i + 1)) ?_ (hJ1 _ _ _ (fun Φ hΦ => hΦ _ _ _ _ _ _ _ _ _ _ _ _ _ _ _ _ _ _ _ _ _ _ _ _ _ _ _ _ _ _ _ _ _ _ _ _ _ _ _ _ _ _ _ _ _ _ _ _ _ _ (i + 1) (t) (v) ?_))
          · have := HI.out.1; omega
          exact ⟨by have := HI.out.1; omega, HI.out.2.2.2.2.2, HI.out.2.2.2.2.1.trans HQ.out, HQ.out ▸ HCn.out, HI.out.2.2.1.next hb3, HI.out.2.2.2.1.nxt (hb3)⟩
    · have HQ : Hid (Trie.madeW L = t) := Lib.hid (by
        rw [← h2, Trie.madeW]
        by_cases h30 : i < 30
        · rw [List.take_of_length_le (by omega), List.take_of_length_le (by omega)]
        · rw [show i = 30 by omega])
      have HI := Lib.hid (And.intro hk hb)
      by_cases hl : i < L.length
      · have hi0 : (i : Int) < L.length := by omega
        have hi2 : ((i : Int) < 30) = False := by simp; omega
        clear h1 h0 h2 h3 hk hb hi
        go_wp2_with fail
        exact HP.out _ _ _ HQ.out HI.out.1 HI.out.2
      · have hi0 : ((i : Int) < L.length) = False := by simp; omega
        clear h1 h0 h2 h3 hk hb hi
        go_wp2_with fail
        exact HP.out _ _ _ HQ.out HI.out.1 HI.out.2
end Go.Proofs.YtaplecncnkkigaaDoor

/- Layer 10's laws: works. No conditions. -/
namespace Go.Proofs.YtaplecncnkkigaaDoor
set_option linter.unusedVariables false
open Go.RowKit Go.Instr
attribute [local go_sem] ba_get ByteArray.mk_append_mk
attribute [local go_sem ↓] Go.wp_at_zero Go.wp_at_succ

namespace Trie
/-- the two tries that 'works' looks at -/
def works1 : T := (ofW .nil [([97, 98], [50]), ([97], [49])]).1
def works2 : T := (ofW .nil [([107], [118])]).1
theorem works1_of : ofW .nil [([97, 98], [50]), ([97], [49])] = (works1, 0) := by
  rw [works1, show (ofW .nil [([97, 98], [50]), ([97], [49])]) = ((ofW .nil [([97, 98], [50]), ([97], [49])]).1, (ofW .nil [([97, 98], [50]), ([97], [49])]).2) from rfl]
  congr 1
theorem works2_of : ofW .nil [([107], [118])] = (works2, 0) := by
  rw [works2, show (ofW .nil [([107], [118])]) = ((ofW .nil [([107], [118])]).1, (ofW .nil [([107], [118])]).2) from rfl]
  congr 1
theorem works1_count : count works1 = 2 := by decide +kernel
theorem works1_get : getW works1 [97, 98] = ([50], 0) := by decide +kernel
theorem works1_nn : works1 ≠ .nil := by
  intro h
  have := works1_count
  rw [h] at this
  simp [count] at this
theorem works2_count : count works2 = 1 := by decide +kernel
end Trie
theorem works2_told : toldW allW Trie.works2 = [[1, 1, 2, 32, 107, 1, 1, 118]] := by decide +kernel
theorem works1_told : (toldW allW Trie.works1).length = 3 := by
  rw [toldW, textsD, List.length_map]
  decide +kernel

theorem reads_blk {w : World} {b e size n : Nat} {xs : Array Value} (h : Blk w b e xs) (hn : xs.size = n * size) : Reads w w.heap.size size (some ⟨b, 0, none⟩) n xs.toList := by
  refine ⟨by simpa using hn, fun _ => ⟨_, rfl, h.lt, fun j u hu => ?_⟩⟩
  have hj : j < xs.size := by have := (List.getElem?_eq_some_iff.1 hu).1; simpa using this
  have := h.cell j
  rw [show (⟨b, 0, none⟩ : Addr).add j = ⟨b, j, none⟩ by unfold Addr.add; split <;> simp_all]
  rw [this]
  simpa using hu

set_option maxRecDepth 100000 in
set_option maxHeartbeats 1000000 in
theorem law10_works (w : World) (hT : Tbl w) :
    Calls Tryd.prog 12 #[] w fun e w' => e = .returned (.bool true) ∧ Below w.heap.size w w' := by
  have HP : Hid (∀ w', Below w.heap.size w w' → (fun e w' => e = Ending.returned (.bool true) ∧ Below w.heap.size w w') (Ending.returned (.bool true)) w') := Lib.hid (fun W' a2 => ⟨rfl, a2⟩)
  generalize (fun e w' => e = Ending.returned (.bool true) ∧ Below w.heap.size w w') = P at HP ⊢
  have HTb := Lib.hid hT
  have HW : Hid (∀ (W : World) f, Below W.heap.size W (W.alloc (.cells f 26))) := Lib.hid (fun W f => by go_grown)
  clear hT
  go_enter Tryd.func12, Tryd.ntmps12
  go_wp2_with fail
  refine (trie_Of [([97, 98], [50]), ([97], [49])] (by simp) (by simp) _ ?_ _ _ ?_).mono ?_
  · exact HTb.out.next (by go_grown)
  · exact reads_blk (Blk.new _ _ _) (by simp)
  rw [Trie.works1_of]
  rintro e w1 ⟨v1, rfl, hb1, hk1, _⟩
  have HB1 : Hid (Below w.heap.size w w1) := Lib.hid ((HW.out _ _).nxt hb1)
  have HK1 := Lib.hid (hk1 rfl)
  clear hb1 hk1
  go_wp2_with fail
  refine (trie_Of [([107], [118])] (by simp) (by simp) _ ?_ _ _ ?_).mono ?_
  · exact HTb.out.next (HB1.out.nxt (by go_grown))
  · exact reads_blk (Blk.new _ _ _) (by simp)
  rw [Trie.works2_of]
  rintro e w2 ⟨v2, rfl, hb2, hk2, _⟩
  have HB2 : Hid (Below w1.heap.size w1 w2) := Lib.hid ((HW.out _ _).nxt hb2)
  have HK2 := Lib.hid (hk2 rfl)
  clear hb2 hk2
  obtain ⟨_, b1, x1, rfl, _⟩ := id HK1.out
  obtain ⟨_, b2, x2, rfl, _⟩ := id HK2.out
  go_wp2_with fail
  refine (trie_Nodes _ _ _ HK2.out (by decide +kernel)).mono ?_
  rw [works2_told]
  rintro e w3 ⟨A, n, c, rfl, rfl, hown, hb3⟩
  have HB3 := Lib.hid hb3
  obtain ⟨ad, off, rfl, hlt, hc⟩ := (Reads.of_own hown).form (by simp) (by simp)
  have c0 : w3.cell? ⟨ad, off, none⟩ = some (.string ⟨#[1, 1, 2, 32, 107, 1, 1, 118]⟩) := hc 0 (by simp [strv])
  clear hown hb3 hc
  go_wp2_with fail
  refine (trie_Get _ _ _ (HK1.out.next (HB2.out.nxt HB3.out)) [97, 98] (by simp)).mono ?_
  rw [Trie.works1_get]
  rintro e w4 ⟨rfl, hb4⟩
  have HB4 : Hid (Below w1.heap.size w1 w4) := Lib.hid ((HB2.out.nxt HB3.out).nxt hb4)
  have c4 := (hb4.cell (p := ⟨ad, off, none⟩) hlt).trans c0
  clear hb4 c0
  go_wp2_with fail
  refine (trie_Len _ _ _ (HK1.out.next HB4.out)).mono ?_
  rw [Trie.works1_count]
  rintro e w5 ⟨rfl, rfl⟩
  go_wp2_with fail
  refine (trie_Nodes _ _ _ (HK1.out.next HB4.out) (by decide +kernel)).mono ?_
  rintro e w6 ⟨A6, n6, c6, rfl, hn6, _, hb6⟩
  rw [works1_told] at hn6
  subst hn6
  have HB6 : Hid (Below w1.heap.size w1 w6) := Lib.hid (HB4.out.nxt hb6)
  clear hb6
  go_wp2_with fail
  refine (trie_Root _ _ _ (HK1.out.next HB6.out)).mono ?_
  have hs := Trie.sumT_len Trie.works1_nn
  rintro e w7 ⟨rfl, rfl⟩
  generalize Trie.sumT Trie.works1 = sm at *
  go_wp2_with fail
  exact HP.out _ (HB1.out.nxt HB6.out)
end Go.Proofs.YtaplecncnkkigaaDoor

/- Plain laws of a trie and its items. No program in sight. -/
namespace Go.Proofs.YtaplecncnkkigaaDoor
set_option linter.unusedVariables false
namespace Trie
theorem mem_itemsW {t : T} (h : Good t) (k v : List UInt8) : (k, v) ∈ itemsW t ↔ look t (Nib.of k) = v ∧ v ≠ [] := by
  rw [itemsW, List.mem_map]
  constructor
  · rintro ⟨x, hx, e⟩
    obtain ⟨q, hq, rfl, hn⟩ := (mem_items t [] x h.wf).1 hx
    injection e with e1 e2
    subst e1
    simp only [List.nil_append] at e2 ⊢
    rw [Nib.of_joined q hq (h.even q hq hn).1, ← e2]
    exact ⟨rfl, hn⟩
  · rintro ⟨e, hn⟩
    subst e
    exact ⟨(Nib.of k, look t (Nib.of k)), (mem_items t [] _ h.wf).2 ⟨Nib.of k, Nib.fit_of k, rfl, hn⟩, by simp [Nib.joined_of]⟩
theorem mem_at {t : T} (h : Good t) {q : List UInt8} (hq : Nib.fit q = true) (hn : look t q ≠ []) : (Nib.joined q, look t q) ∈ itemsW t := by
  refine (mem_itemsW h _ _).2 ⟨?_, hn⟩
  rw [Nib.of_joined q hq (h.even q hq hn).1]
theorem items_inj {a b : T} (ha : Good a) (hb : Good b) (h : itemsW a = itemsW b) : a = b := by
  refine unique a b ha.wf hb.wf (fun q hq => ?_)
  by_cases h1 : look a q = []
  · by_cases h2 : look b q = []
    · rw [h1, h2]
    · have := mem_at hb hq h2
      rw [← h] at this
      have := ((mem_itemsW ha _ _).1 this).1
      rw [Nib.of_joined q hq (hb.even q hq h2).1] at this
      exact this
  · have := mem_at ha hq h1
    rw [h] at this
    have := ((mem_itemsW hb _ _).1 this).1
    rw [Nib.of_joined q hq (ha.even q hq h1).1] at this
    exact this.symm
theorem item_code {t : T} (h : Good t) {k v : List UInt8} (hx : (k, v) ∈ itemsW t) : putCode k v = 0 := by
  obtain ⟨rfl, hn⟩ := (mem_itemsW h k v).1 hx
  obtain ⟨s1, s2⟩ := h.small _ (Nib.fit_of k) hn
  rw [Nib.of_length] at s1
  have hk : k ≠ [] := fun e => (h.even _ (Nib.fit_of k) hn).2 (by rw [e]; rfl)
  have h1 : keyedW k = true := by simp [keyedW, hk]; omega
  simp only [putCode, h1, if_true]
  rw [if_neg]
  simp [hn]
  omega
theorem keys_nodup {t : T} (h : Good t) : ((itemsW t).map (·.1)).Nodup := by
  rw [itemsW, List.map_map, List.Nodup, List.pairwise_map]
  refine (sorted_items t [] h.wf).imp_of_mem ?_
  intro x y hx hy hlt
  obtain ⟨q, hq, rfl, hqn⟩ := (mem_items t [] x h.wf).1 hx
  obtain ⟨r, hr, rfl, hrn⟩ := (mem_items t [] y h.wf).1 hy
  simp only [List.nil_append, Function.comp] at hlt ⊢
  intro e
  have := congrArg Nib.of e
  rw [Nib.of_joined q hq (h.even q hq hqn).1, Nib.of_joined r hr (h.even r hr hrn).1] at this
  subst this
  rw [Nib.blt_irrefl] at hlt
  cases hlt
theorem ofW_all : ∀ (l : List (List UInt8 × List UInt8)) (t0 : T), Good t0 → (∀ x ∈ l, putCode x.1 x.2 = 0) → (l.map (·.1)).Nodup →
    ∃ t', ofW t0 l = (t', 0) ∧ Good t' ∧ (∀ x ∈ l, look t' (Nib.of x.1) = x.2) ∧ (∀ q, Nib.fit q = true → (∀ x ∈ l, Nib.of x.1 ≠ q) → look t' q = look t0 q) := by
  intro l
  induction l with
  | nil => intro t0 h0 _ _; exact ⟨t0, rfl, h0, by simp, fun q _ _ => rfl⟩
  | cons x l ih =>
    intro t0 h0 hc hnd
    have hx := hc x (by simp)
    obtain ⟨c1, c2, c3⟩ := putCode_zero hx
    have hg := h0.put c1 c2 c3
    have hs := (put_spec t0 (Nib.of x.1) x.2 h0.wf (Nib.fit_of _) c2).2.1
    rw [List.map_cons, List.nodup_cons] at hnd
    obtain ⟨t', e, g', a', b'⟩ := ih (put t0 (Nib.of x.1) x.2) hg (fun y hy => hc y (by simp [hy])) hnd.2
    refine ⟨t', by rw [ofW, if_pos hx]; exact e, g', ?_, ?_⟩
    · intro y hy
      rcases List.mem_cons.1 hy with rfl | hy
      · rw [b' _ (Nib.fit_of _) (fun z hz e => hnd.1 (List.mem_map.2 ⟨z, hz, Nib.of_inj e⟩)), hs _ (Nib.fit_of _), if_pos rfl]
      · exact a' y hy
    · intro q hq hne
      rw [b' q hq (fun z hz => hne z (by simp [hz])), hs q hq, if_neg (fun e => hne x (by simp) e.symm)]
theorem ofW_items {t : T} (h : Good t) : ofW .nil (itemsW t) = (t, 0) := by
  obtain ⟨t', e, g', a', b'⟩ := ofW_all (itemsW t) .nil Good.nil (fun x hx => item_code h hx) (keys_nodup h)
  rw [e]
  congr 1
  refine unique t' t g'.wf h.wf (fun q hq => ?_)
  by_cases hn : look t q = []
  · rw [b' q hq, hn]
    · rfl
    · intro x hx e
      have := (mem_itemsW h x.1 x.2).1 hx
      rw [e] at this
      exact this.2 (this.1.symm.trans hn)
  · have := a' _ (mem_at h hq hn)
    rw [Nib.of_joined q hq (h.even q hq hn).1] at this
    exact this
end Trie
end Go.Proofs.YtaplecncnkkigaaDoor
