import Derived.Test.YtefcmigbdfeaiaaDoorJ19
import Derived.Test.YtefcmigbdfeaiaaDoorJ01
set_option linter.unusedSimpArgs false
set_option linter.unusedVariables false
/- The walks of layer 10 (trie): Get, Put. No conditions. -/
namespace Go.Proofs.YtefcmigbdfeaiaaDoor
set_option linter.unusedVariables false
open Go.RowKit Go.Instr
attribute [local go_sem] ba_get ByteArray.mk_append_mk
attribute [local go_sem ↓] Go.wp_at_zero Go.wp_at_succ

namespace Trie
def getW (t : T) (key : List UInt8) : List UInt8 × Nat :=
  if keyedW key then (if (look t (Nib.of key)).isEmpty then ([], 5) else (look t (Nib.of key), 0)) else ([], 1)
theorem keyed_len {key : List UInt8} (h : keyedW key = true) : key.length ≤ 8 ∧ key ≠ [] := by
  simp [keyedW] at h
  exact ⟨h.2, h.1⟩
end Trie
def TGetEnd (w : World) (r : List UInt8 × Nat) (e : Ending) (w' : World) : Prop := e = .returned (.tuple #[.string ⟨r.1.toArray⟩, .int .i64 (r.2 : Int)]) ∧ Below w.heap.size w w'


set_option maxHeartbeats 1000000 in
theorem trie_Get (w : World) (t : Trie.T) (v : Value) (h : TrieP w t v) (key : List UInt8) (hl : key.length ≤ 9223372036854775807) :
    Calls Tryd.prog 43 #[v, .string ⟨key.toArray⟩] w (TGetEnd w (Trie.getW t key)) := by
  obtain ⟨hg, b, x, rfl, hbk, hk⟩ := h
  have HP : Hid (∀ r w', Trie.getW t key = r → Below w.heap.size w w' → TGetEnd w (Trie.getW t key) (.returned (.tuple #[.string ⟨r.1.toArray⟩, .int .i64 (r.2 : Int)])) w') := Lib.hid (fun b w' h1 h2 => ⟨by rw [h1], h2⟩)
  have c0 : w.cell? ⟨b, 0, none⟩ = some x := hbk.cell 0
  have HLt := Lib.hid hbk.lt
  generalize TGetEnd w (Trie.getW t key) = P at HP ⊢
  cases hkey : Trie.keyedW key with
  | false =>
    have HKy : Hid (∀ W, Calls Tryd.prog 73 #[.string ⟨key.toArray⟩] W fun e w' => e = .returned (.bool false) ∧ W = w') := Lib.hid (fun W => by have := trie_keyed key hl W; rwa [hkey] at this)
    have HR : Hid (Trie.getW t key = ([], 1)) := Lib.hid (by simp [Trie.getW, hkey])
    clear hbk hk hg hkey
    go_enter Tryd.func43, Tryd.ntmps43
    go_wp2_with (go_at_call 73; refine (HKy.out _).mono ?_; rintro e w1 ⟨rfl, rfl⟩)
    exact HP.out _ _ HR.out (Below.refl _ _)
  | true =>
    have HKy : Hid (∀ W, Calls Tryd.prog 73 #[.string ⟨key.toArray⟩] W fun e w' => e = .returned (.bool true) ∧ W = w') := Lib.hid (fun W => by have := trie_keyed key hl W; rwa [hkey] at this)
    have hk8 := (Trie.keyed_len hkey).1
    have HOf : Hid (∀ W, Calls Tryd.prog 56 #[.string ⟨key.toArray⟩] W fun e w' => e = .returned (.string ⟨(Nib.of key).toArray⟩) ∧ Below W.heap.size W w') := Lib.hid (fun W => nib_Of key W (by omega))
    obtain ⟨hx⟩ : Nonempty (x = .pointer none ∨ ∃ b2, x = .pointer (some ⟨b2, 0, none⟩)) := ⟨by rcases hk.form with ⟨_, h⟩ | ⟨b2, _, _, h, _⟩; exact .inl h; exact .inr ⟨b2, h⟩⟩
    rcases hx with rfl | ⟨b2, rfl⟩
    · have HGt : Hid (∀ W, Below w.heap.size w W → Calls Tryd.prog 74 #[(.pointer none), .string ⟨(Nib.of key).toArray⟩] W (GetEnd W (Trie.look t (Nib.of key)))) := Lib.hid (fun W hW => trie_get t (Nib.of key) _ W hg.wf hg.small (Nib.fit_of key) (by rw [Nib.of_length]; omega) (hk.next hW))
      clear hk hg hbk
      by_cases h0 : Trie.look t (Nib.of key) = []
      · have HR : Hid (Trie.getW t key = ([], 5)) := Lib.hid (by simp [Trie.getW, hkey, h0])
        rw [h0] at HGt
        clear h0
        go_enter Tryd.func43, Tryd.ntmps43
        go_upto_region 3 with (go_at_call 73; refine (HKy.out _).mono ?_; rintro e w1 ⟨rfl, rfl⟩)
        go_region_held3 (fun w' => w'.cell? ⟨b, 0, none⟩ = some (.pointer none)) (first | go_keep | assumption) (first | (go_at_call 56; refine (HOf.out _).mono ?_; rintro e w2 ⟨rfl, hb⟩; have hb2 : Below w.heap.size w w2 := (by first | exact hb | exact hb.start); clear hb; have d1 := (hb2.cell (p := ⟨b, 0, none⟩) HLt.out).trans c0) | (go_at_call 74; refine (HGt.out _ (by first | exact hb2 | exact hb2.drew)).mono ?_; rintro e w3 ⟨rfl, hb⟩; have hb3 : Below w2.heap.size w2 w3 := (by first | exact hb | exact hb.start); clear hb; have d2 := (hb3.cell (p := ⟨b, 0, none⟩) (Nat.lt_of_lt_of_le HLt.out hb2.size)).trans d1))
        go_wp2
        exact HP.out _ _ HR.out (hb2.nxt hb3)
      · have HR : Hid (Trie.getW t key = (Trie.look t (Nib.of key), 0)) := Lib.hid (by simp [Trie.getW, hkey, h0])
        have ne1 : ((Trie.look t (Nib.of key)).toArray = #[]) = False := by simp [h0]
        have ne2 : (Trie.look t (Nib.of key)).isEmpty = false := by simp [h0]
        generalize Trie.look t (Nib.of key) = val at *
        clear h0
        go_enter Tryd.func43, Tryd.ntmps43
        go_upto_region 3 with (go_at_call 73; refine (HKy.out _).mono ?_; rintro e w1 ⟨rfl, rfl⟩)
        go_region_held3 (fun w' => w'.cell? ⟨b, 0, none⟩ = some (.pointer none)) (first | go_keep | assumption) (first | (go_at_call 56; refine (HOf.out _).mono ?_; rintro e w2 ⟨rfl, hb⟩; have hb2 : Below w.heap.size w w2 := (by first | exact hb | exact hb.start); clear hb; have d1 := (hb2.cell (p := ⟨b, 0, none⟩) HLt.out).trans c0) | (go_at_call 74; refine (HGt.out _ (by first | exact hb2 | exact hb2.drew)).mono ?_; rintro e w3 ⟨rfl, hb⟩; have hb3 : Below w2.heap.size w2 w3 := (by first | exact hb | exact hb.start); clear hb; have d2 := (hb3.cell (p := ⟨b, 0, none⟩) (Nat.lt_of_lt_of_le HLt.out hb2.size)).trans d1))
        go_wp2
        exact HP.out _ _ HR.out (hb2.nxt hb3)
    · have HGt : Hid (∀ W, Below w.heap.size w W → Calls Tryd.prog 74 #[(.pointer (some ⟨b2, 0, none⟩)), .string ⟨(Nib.of key).toArray⟩] W (GetEnd W (Trie.look t (Nib.of key)))) := Lib.hid (fun W hW => trie_get t (Nib.of key) _ W hg.wf hg.small (Nib.fit_of key) (by rw [Nib.of_length]; omega) (hk.next hW))
      clear hk hg hbk
      by_cases h0 : Trie.look t (Nib.of key) = []
      · have HR : Hid (Trie.getW t key = ([], 5)) := Lib.hid (by simp [Trie.getW, hkey, h0])
        rw [h0] at HGt
        clear h0
        go_enter Tryd.func43, Tryd.ntmps43
        go_upto_region 3 with (go_at_call 73; refine (HKy.out _).mono ?_; rintro e w1 ⟨rfl, rfl⟩)
        go_region_held3 (fun w' => w'.cell? ⟨b, 0, none⟩ = some (.pointer (some ⟨b2, 0, none⟩))) (first | go_keep | assumption) (first | (go_at_call 56; refine (HOf.out _).mono ?_; rintro e w2 ⟨rfl, hb⟩; have hb2 : Below w.heap.size w w2 := (by first | exact hb | exact hb.start); clear hb; have d1 := (hb2.cell (p := ⟨b, 0, none⟩) HLt.out).trans c0) | (go_at_call 74; refine (HGt.out _ (by first | exact hb2 | exact hb2.drew)).mono ?_; rintro e w3 ⟨rfl, hb⟩; have hb3 : Below w2.heap.size w2 w3 := (by first | exact hb | exact hb.start); clear hb; have d2 := (hb3.cell (p := ⟨b, 0, none⟩) (Nat.lt_of_lt_of_le HLt.out hb2.size)).trans d1))
        go_wp2
        exact HP.out _ _ HR.out (hb2.nxt hb3)
      · have HR : Hid (Trie.getW t key = (Trie.look t (Nib.of key), 0)) := Lib.hid (by simp [Trie.getW, hkey, h0])
        have ne1 : ((Trie.look t (Nib.of key)).toArray = #[]) = False := by simp [h0]
        have ne2 : (Trie.look t (Nib.of key)).isEmpty = false := by simp [h0]
        generalize Trie.look t (Nib.of key) = val at *
        clear h0
        go_enter Tryd.func43, Tryd.ntmps43
        go_upto_region 3 with (go_at_call 73; refine (HKy.out _).mono ?_; rintro e w1 ⟨rfl, rfl⟩)
        go_region_held3 (fun w' => w'.cell? ⟨b, 0, none⟩ = some (.pointer (some ⟨b2, 0, none⟩))) (first | go_keep | assumption) (first | (go_at_call 56; refine (HOf.out _).mono ?_; rintro e w2 ⟨rfl, hb⟩; have hb2 : Below w.heap.size w w2 := (by first | exact hb | exact hb.start); clear hb; have d1 := (hb2.cell (p := ⟨b, 0, none⟩) HLt.out).trans c0) | (go_at_call 74; refine (HGt.out _ (by first | exact hb2 | exact hb2.drew)).mono ?_; rintro e w3 ⟨rfl, hb⟩; have hb3 : Below w2.heap.size w2 w3 := (by first | exact hb | exact hb.start); clear hb; have d2 := (hb3.cell (p := ⟨b, 0, none⟩) (Nat.lt_of_lt_of_le HLt.out hb2.size)).trans d1))
        go_wp2
        exact HP.out _ _ HR.out (hb2.nxt hb3)
end Go.Proofs.YtefcmigbdfeaiaaDoor

/- The walks of layer 10 (trie): Put. No conditions. -/
namespace Go.Proofs.YtefcmigbdfeaiaaDoor
set_option linter.unusedVariables false
open Go.RowKit Go.Instr
attribute [local go_sem] ba_get ByteArray.mk_append_mk
attribute [local go_sem ↓] Go.wp_at_zero Go.wp_at_succ

namespace Trie
theorem Good.put {t : T} (h : Good t) {key value : List UInt8} (hk : keyedW key = true) (hv : value ≠ []) (hl : value.length ≤ 32) : Good (put t (Nib.of key) value) := by
  obtain ⟨k8, k0⟩ := keyed_len hk
  have hof := Nib.of_length key
  obtain ⟨h1, h2⟩ := small_put h.wf h.small (Nib.fit_of key) (by omega) hv hl
  refine ⟨h1, h2, fun q hq hne => ?_⟩
  rw [(put_spec t _ value h.wf (Nib.fit_of key) hv).2.1 q hq] at hne
  split at hne
  · rename_i e; subst e
    refine ⟨by omega, fun e => ?_⟩
    have := congrArg List.length e
    rw [hof] at this
    simp at this
    exact k0 (List.eq_nil_of_length_eq_zero (by omega))
  · exact h.even q hq hne
end Trie
def TPutEnd (w : World) (t : Trie.T) (code : Nat) (e : Ending) (w' : World) : Prop :=
  ∃ v', e = .returned (.tuple #[v', .int .i64 (code : Int)]) ∧ Below w.heap.size w w' ∧ (code = 0 → TrieP w' t v') ∧ (code ≠ 0 → v' = .pointer none)


set_option maxHeartbeats 1000000 in
theorem trie_Put (w : World) (t : Trie.T) (v : Value) (h : TrieP w t v) (hc : Trie.count t < 1024) (hT : Tbl w) (key value : List UInt8) (hl : key.length ≤ 9223372036854775807) (hvl : value.length ≤ 9223372036854775807) :
    Calls Tryd.prog 50 #[v, .string ⟨key.toArray⟩, .string ⟨value.toArray⟩] w (TPutEnd w (Trie.put t (Nib.of key) value) (Trie.putCode key value)) := by
  obtain ⟨hg, b, x, rfl, hbk, hk⟩ := h
  have HP : Hid (∀ c v' w', Trie.putCode key value = c → Below w.heap.size w w' → (c = 0 → TrieP w' (Trie.put t (Nib.of key) value) v') → (c ≠ 0 → v' = .pointer none) → TPutEnd w (Trie.put t (Nib.of key) value) (Trie.putCode key value) (.returned (.tuple #[v', .int .i64 (c : Int)])) w') := Lib.hid (fun c v' w' h1 h2 h3 h4 => ⟨v', by rw [h1], h2, by rw [h1]; exact h3, by rw [h1]; exact h4⟩)
  have c0 : w.cell? ⟨b, 0, none⟩ = some x := hbk.cell 0
  have HLt := Lib.hid hbk.lt
  generalize TPutEnd w (Trie.put t (Nib.of key) value) (Trie.putCode key value) = P at HP ⊢
  cases hkey : Trie.keyedW key with
  | false =>
    have HKy : Hid (∀ W, Calls Tryd.prog 73 #[.string ⟨key.toArray⟩] W fun e w' => e = .returned (.bool false) ∧ W = w') := Lib.hid (fun W => by have := trie_keyed key hl W; rwa [hkey] at this)
    have HR : Hid (Trie.putCode key value = 1) := Lib.hid (by simp [Trie.putCode, hkey])
    clear hbk hk hg hkey hT
    go_enter Tryd.func50, Tryd.ntmps50
    go_wp2_with (go_at_call 73; refine (HKy.out _).mono ?_; rintro e w1 ⟨rfl, rfl⟩)
    exact HP.out 1 _ _ HR.out (Below.refl _ _) (fun h => by simp at h) (fun _ => rfl)
  | true =>
  have HKy : Hid (∀ W, Calls Tryd.prog 73 #[.string ⟨key.toArray⟩] W fun e w' => e = .returned (.bool true) ∧ W = w') := Lib.hid (fun W => by have := trie_keyed key hl W; rwa [hkey] at this)
  have hk8 := (Trie.keyed_len hkey).1
  have HOf : Hid (∀ W, Calls Tryd.prog 56 #[.string ⟨key.toArray⟩] W fun e w' => e = .returned (.string ⟨(Nib.of key).toArray⟩) ∧ Below W.heap.size W w') := Lib.hid (fun W => nib_Of key W (by omega))
  by_cases hv0 : value = []
  · subst hv0
    have HR : Hid (Trie.putCode key [] = 2) := Lib.hid (by simp [Trie.putCode, hkey])
    clear hbk hk hg hkey hT
    go_enter Tryd.func50, Tryd.ntmps50
    go_wp2_with (go_at_call 73; refine (HKy.out _).mono ?_; rintro e w1 ⟨rfl, rfl⟩)
    exact HP.out 2 _ _ HR.out (Below.refl _ _) (fun h => by simp at h) (fun _ => rfl)
  have ne1 : (value.toArray = #[]) = False := by simp [hv0]
  have ne2 : value.isEmpty = false := by simp [hv0]
  by_cases h32 : value.length ≤ 32
  · have h32' : (32 < (value.length : Int)) = False := by simp; omega
    rcases hk.form with ⟨_, rfl⟩ | ⟨b2, _, _, rfl, _⟩
    · skip
      have HPut : Hid (∀ W, Below w.heap.size w W → Calls Tryd.prog 79 #[(.pointer none), .string ⟨(Nib.of key).toArray⟩, .string ⟨value.toArray⟩] W (KnotEnd W (Trie.put t (Nib.of key) value))) := Lib.hid (fun W hW => trie_put t (Nib.of key) value _ W hg.wf hg.small (by omega) (Nib.fit_of key) (by rw [Nib.of_length]; omega) hv0 (by omega) (hT.next hW) (hk.next hW))
      have HNN := Lib.hid (Trie.put_nn t (Nib.of key) value)
      have HGd := Lib.hid (hg.put hkey hv0 h32)
      have HLen : Hid (∀ W, Below w.heap.size w W → Calls Tryd.prog 48 #[.pointer (some ⟨b, 0, none⟩)] W fun e w' => e = .returned (.int .i64 (Trie.count t : Int)) ∧ W = w') := Lib.hid (fun W hW => trie_Len W t _ (TrieP.next ⟨hg, b, _, rfl, hbk, hk⟩ hW))
      have HR : Hid (Trie.putCode key value = 0) := Lib.hid (by simp [Trie.putCode, hkey, ne2, h32])
      have hcI : ((1024 : Int) ≤ (Trie.count t : Int)) = False := by simp; omega
      clear hk hg hbk hT hc hkey hv0 h32
      go_enter Tryd.func50, Tryd.ntmps50
      go_upto_region 6 with (first | (go_at_call 73; refine (HKy.out _).mono ?_; rintro e w1 ⟨rfl, rfl⟩) | (go_at_call 56; refine (HOf.out _).mono ?_; rintro e w2 ⟨rfl, hb2⟩))
      have HB2 := Lib.hid hb2
      have c2 := (hb2.cell (p := ⟨b, 0, none⟩) HLt.out).trans c0
      clear hb2 c0
      go_wp2_with (first | (go_at_call 48; refine (HLen.out _ HB2.out).mono ?_; rintro e w3 ⟨rfl, rfl⟩) | (go_at_call 79; refine (HPut.out _ HB2.out).mono ?_; rintro e w3 ⟨x, rfl, hk, hb⟩; obtain ⟨b3, rfl⟩ := hk.ptr HNN.out))
      have hw4 : Below w3.heap.size w3 (w3.alloc (.cells #[.pointer (some ⟨b3, 0, none⟩)] 98)) := by go_grown
      exact HP.out 0 _ _ HR.out (HB2.out.nxt (hb.nxt hw4)) (fun _ => ⟨HGd.out, _, _, rfl, Blk.new _ _ _, hk.next hw4⟩) (fun h => absurd rfl h)
    · skip
      have HPut : Hid (∀ W, Below w.heap.size w W → Calls Tryd.prog 79 #[(.pointer (some ⟨b2, 0, none⟩)), .string ⟨(Nib.of key).toArray⟩, .string ⟨value.toArray⟩] W (KnotEnd W (Trie.put t (Nib.of key) value))) := Lib.hid (fun W hW => trie_put t (Nib.of key) value _ W hg.wf hg.small (by omega) (Nib.fit_of key) (by rw [Nib.of_length]; omega) hv0 (by omega) (hT.next hW) (hk.next hW))
      have HNN := Lib.hid (Trie.put_nn t (Nib.of key) value)
      have HGd := Lib.hid (hg.put hkey hv0 h32)
      have HLen : Hid (∀ W, Below w.heap.size w W → Calls Tryd.prog 48 #[.pointer (some ⟨b, 0, none⟩)] W fun e w' => e = .returned (.int .i64 (Trie.count t : Int)) ∧ W = w') := Lib.hid (fun W hW => trie_Len W t _ (TrieP.next ⟨hg, b, _, rfl, hbk, hk⟩ hW))
      have HR : Hid (Trie.putCode key value = 0) := Lib.hid (by simp [Trie.putCode, hkey, ne2, h32])
      have hcI : ((1024 : Int) ≤ (Trie.count t : Int)) = False := by simp; omega
      clear hk hg hbk hT hc hkey hv0 h32
      go_enter Tryd.func50, Tryd.ntmps50
      go_upto_region 6 with (first | (go_at_call 73; refine (HKy.out _).mono ?_; rintro e w1 ⟨rfl, rfl⟩) | (go_at_call 56; refine (HOf.out _).mono ?_; rintro e w2 ⟨rfl, hb2⟩))
      have HB2 := Lib.hid hb2
      have c2 := (hb2.cell (p := ⟨b, 0, none⟩) HLt.out).trans c0
      clear hb2 c0
      go_wp2_with (first | (go_at_call 48; refine (HLen.out _ HB2.out).mono ?_; rintro e w3 ⟨rfl, rfl⟩) | (go_at_call 79; refine (HPut.out _ HB2.out).mono ?_; rintro e w3 ⟨x, rfl, hk, hb⟩; obtain ⟨b3, rfl⟩ := hk.ptr HNN.out))
      have hw4 : Below w3.heap.size w3 (w3.alloc (.cells #[.pointer (some ⟨b3, 0, none⟩)] 98)) := by go_grown
      exact HP.out 0 _ _ HR.out (HB2.out.nxt (hb.nxt hw4)) (fun _ => ⟨HGd.out, _, _, rfl, Blk.new _ _ _, hk.next hw4⟩) (fun h => absurd rfl h)
  · have h32' : 32 < (value.length : Int) := by omega
    have HR : Hid (Trie.putCode key value = 2) := Lib.hid (by simp [Trie.putCode, hkey, ne2]; omega)
    clear hbk hk hg hkey hT
    go_enter Tryd.func50, Tryd.ntmps50
    go_wp2_with (go_at_call 73; refine (HKy.out _).mono ?_; rintro e w1 ⟨rfl, rfl⟩)
    exact HP.out 2 _ _ HR.out (Below.refl _ _) (fun h => by simp at h) (fun _ => rfl)
end Go.Proofs.YtefcmigbdfeaiaaDoor

/- The blocks of memory that a walk keeps: a list of them, and what each step does to it. No conditions. -/
namespace Go.Proofs.YtefcmigbdfeaiaaDoor
set_option linter.unusedVariables false
open Go.RowKit
attribute [local go_sem] ba_get ByteArray.mk_append_mk

/-- W grew out of w; each block of L is newer than w, and lies in W as L says; no two are the same -/
structure Live (w W : World) (L : List (Nat × Nat × Array Value)) : Prop where
  b : Below w.heap.size w W
  l : ∀ x ∈ L, w.heap.size ≤ x.1 ∧ Blk W x.1 x.2.1 x.2.2
  d : L.Pairwise fun x y => x.1 ≠ y.1
section
variable {w W W' : World} {L : List (Nat × Nat × Array Value)} {i g t : Nat} {cs cs' : Array Value}
theorem Live.start (w : World) : Live w w [] := ⟨Below.refl _ _, by simp, List.Pairwise.nil⟩
theorem Live.blk (h : Live w W L) (i : Nat) (hi : L[i]? = some (g, t, cs)) : Blk W g t cs := (h.l _ (List.mem_of_getElem? hi)).2
theorem Live.own (h : Live w W L) (i : Nat) (hi : L[i]? = some (g, t, cs)) : w.heap.size ≤ g := (h.l _ (List.mem_of_getElem? hi)).1
theorem Live.lt (h : Live w W L) (i : Nat) (hi : L[i]? = some (g, t, cs)) : g < W.heap.size := (h.blk i hi).lt
theorem Live.cell (h : Live w W L) (i k : Nat) {v : Value} (hi : L[i]? = some (g, t, cs)) (hk : cs[k]? = some v) : W.cell? ⟨g, k, none⟩ = some v := ((h.blk i hi).cell k).trans hk
theorem Live.frozen (h : Live w W L) (i k : Nat) (hi : L[i]? = some (g, t, cs)) : W.frozen? ⟨g, k, none⟩ = false := (h.blk i hi).frozen k
theorem Live.below (h : Live w W L) (hb : Below W.heap.size W W') : Live w W' L :=
  ⟨h.b.trans (hb.mono h.b.size), fun x hx => ⟨(h.l x hx).1, (h.l x hx).2.below hb (h.l x hx).2.lt⟩, h.d⟩
theorem Live.alloc (h : Live w W L) (cs : Array Value) (t : Nat) : Live w (W.alloc (.cells cs t)) ((W.heap.size, t, cs) :: L) :=
  ⟨h.b.alloc h.b.size _, by
    intro x hx
    rcases List.mem_cons.1 hx with rfl | hx
    · exact ⟨h.b.size, Blk.new _ _ _⟩
    · exact ⟨(h.l x hx).1, (h.l x hx).2.alloc _⟩, by
    refine List.pairwise_cons.2 ⟨fun x hx e => ?_, h.d⟩
    have := (h.l x hx).2.lt
    have e' : W.heap.size = x.1 := e
    omega⟩
theorem Live.drop (h : Live w W L) (k : Nat) : Live w W (L.drop k) :=
  ⟨h.b, fun x hx => h.l x (List.mem_of_mem_drop hx), h.d.sublist (List.drop_sublist _ _)⟩
theorem Live.erase (h : Live w W L) (k : Nat) : Live w W (L.eraseIdx k) :=
  ⟨h.b, fun x hx => h.l x (List.mem_of_mem_eraseIdx hx), h.d.sublist (List.eraseIdx_sublist _ _)⟩
theorem pairwise_set_ {L : List (Nat × Nat × Array Value)} (d : L.Pairwise fun x y => x.1 ≠ y.1) (i : Nat) (hi : L[i]? = some (g, t, cs)) : (L.set i (g, t, cs')).Pairwise fun x y => x.1 ≠ y.1 := by
  have e : (L.set i (g, t, cs')).map (·.1) = L.map (·.1) := by
    rw [List.map_set]
    apply List.ext_getElem?
    intro j
    rw [List.getElem?_set]
    split
    · rename_i hj
      subst hj
      obtain ⟨hl, he⟩ := List.getElem?_eq_some_iff.1 hi
      simp [hl, he]
    · rfl
  have h1 : (L.map (·.1)).Pairwise (· ≠ ·) := List.pairwise_map.2 d
  rw [← e] at h1
  exact List.pairwise_map.1 h1
theorem Live.grown (h : Live w W L) (i : Nat) (hi : L[i]? = some (g, t, cs)) (hg : W.grownBy W' (some g)) (hb : Blk W' g t cs') : Live w W' (L.set i (g, t, cs')) := by
  have hgo := h.own i hi
  refine ⟨h.b.grown hg h.b.size (fun k e => by injection e with e; subst e; exact hgo), fun x hx => ?_, pairwise_set_ h.d i hi⟩
  obtain ⟨j, hj⟩ := List.getElem?_of_mem hx
  rw [List.getElem?_set] at hj
  split at hj
  · rename_i e
    split at hj
    · injection hj with hj
      subst hj
      exact ⟨hgo, hb⟩
    · cases hj
  · rename_i e
    have hxL := List.mem_of_getElem? hj
    refine ⟨(h.l x hxL).1, (h.l x hxL).2.grown hg ?_⟩
    intro e2
    injection e2 with e2
    have hp := h.d
    rw [List.pairwise_iff_getElem] at hp
    obtain ⟨h1, h2⟩ := List.getElem?_eq_some_iff.1 hi
    obtain ⟨h3, h4⟩ := List.getElem?_eq_some_iff.1 hj
    rcases Nat.lt_or_gt_of_ne e with hlt | hlt
    · have := hp i j h1 h3 hlt
      rw [h2, h4] at this
      exact this e2.symm
    · have := hp j i h3 h1 hlt
      rw [h2, h4] at this
      exact this e2
/-- a block that is not in the list grew -/
theorem Live.apart (h : Live w W L) {row : Option Nat} (hg : W.grownBy W' row) (hr : ∀ k, row = some k → w.heap.size ≤ k ∧ ∀ x ∈ L, x.1 ≠ k) : Live w W' L :=
  ⟨h.b.grown hg h.b.size (fun k e => (hr k e).1), fun x hx => ⟨(h.l x hx).1, (h.l x hx).2.grown hg (fun e => (hr _ e.symm).2 x hx rfl)⟩, h.d⟩
theorem Live.set (h : Live w W L) (i k : Nat) (u : Value) (hi : L[i]? = some (g, t, cs)) : Live w (W.setCell ⟨g, k, none⟩ u) (L.set i (g, t, cs.setIfInBounds k u)) :=
  h.grown i hi ⟨rfl, rfl, rfl, by simp [World.setCell], fun j hj hne => Below.heap_setCell _ _ _ _ (fun e => hne (by rw [e]))⟩ ((h.blk i hi).set_ k u)
/-- a row that is no block of the list (its members are of another type) grew -/
theorem Live.push {base e size n : Nat} {v : Value} {xs : List Value} (h : Live w W L) (own : W.ownsRow base e size v n xs) (hbase : w.heap.size ≤ base) (hne : ∀ x ∈ L, e ≠ x.2.1) (hg : W.grownBy W' v.ownBlock) : Live w W' L :=
  h.apart hg fun k hk => ⟨Nat.le_trans hbase (own.lt k hk).1, fun x hx he => own_blk_ne own (h.l x hx).2 (hne x hx) (by rw [he]; exact hk)⟩
theorem Live.hp {base e size n : Nat} {v : Value} {xs : List Value} (h : Hid (Live w W L)) (own : W.ownsRow base e size v n xs) (hbase : w.heap.size ≤ base) (hne : ∀ x ∈ L, e ≠ x.2.1) (hg : W.grownBy W' v.ownBlock) : Hid (Live w W' L) := Lib.hid (h.out.push own hbase hne hg)
theorem Live.hb (h : Hid (Live w W L)) (hb : Below W.heap.size W W') : Hid (Live w W' L) := Lib.hid (h.out.below hb)
theorem Live.hbd (h : Hid (Live w W L)) (hb : Below W.drew.heap.size W.drew W') : Hid (Live w W' L) := Lib.hid (h.out.below ⟨hb.os, hb.tape, hb.output, hb.size, hb.block⟩)
theorem Live.ha (h : Hid (Live w W L)) (cs : Array Value) (t : Nat) : Hid (Live w (W.alloc (.cells cs t)) ((W.heap.size, t, cs) :: L)) := Lib.hid (h.out.alloc cs t)
theorem Live.hs (h : Hid (Live w W L)) (i k : Nat) (u : Value) (hi : L[i]? = some (g, t, cs)) : Hid (Live w (W.setCell ⟨g, k, none⟩ u) (L.set i (g, t, cs.setIfInBounds k u))) := Lib.hid (h.out.set i k u hi)
theorem Live.hg (h : Hid (Live w W L)) (i : Nat) (hi : L[i]? = some (g, t, cs)) (hg : W.grownBy W' (some g)) (hb : Blk W' g t cs') : Hid (Live w W' (L.set i (g, t, cs'))) := Lib.hid (h.out.grown i hi hg hb)
theorem Live.drew (h : Live w W L) (n : Nat) : Live w (W.drewN n) L := ⟨⟨h.b.os, h.b.tape, h.b.output, h.b.size, h.b.block⟩, h.l, h.d⟩
end
open Go.Instr
theorem join_run (a b : List UInt8) (h : a.length + b.length ≤ 9223372036854775000) (w : World) : (binOp .add 9 (.string ⟨a.toArray⟩) (.string ⟨b.toArray⟩)).run Tryd.prog w = .ok (.string ⟨(a ++ b).toArray⟩) w := by
  have hs : a.length + b.length ≤ 9223372036854775807 := by omega
  go_simp
theorem conv1b {w : World} {g : Nat} {x : Int} (h : Blk w g 5 #[.int .u8 x]) (h0 : 0 ≤ x) (h1 : x < 256) : (convert 127 9 (.slice (some ⟨g, 0, none⟩) 1 1)).run Tryd.prog w = .ok (.string ⟨#[UInt8.ofNat x.toNat]⟩) w := by
  refine conv_reads _ (g + 1) _ _ _ [UInt8.ofNat x.toNat] ⟨rfl, fun _ => ⟨_, rfl, by simp, fun j u hu => ?_⟩⟩
  have ha : (⟨g, 0, none⟩ : Addr).add j = ⟨g, j, none⟩ := by unfold Addr.add; split <;> simp_all
  rw [ha, h.cell]
  simp only [bvals, List.map, u8_ofInt x h0 h1] at hu
  simpa using hu
theorem conv2b {w : World} {g : Nat} {x y : Int} (h : Blk w g 5 #[.int .u8 x, .int .u8 y]) (h0 : 0 ≤ x) (h1 : x < 256) (h2 : 0 ≤ y) (h3 : y < 256) : (convert 127 9 (.slice (some ⟨g, 0, none⟩) 2 2)).run Tryd.prog w = .ok (.string ⟨#[UInt8.ofNat x.toNat, UInt8.ofNat y.toNat]⟩) w := by
  refine conv_reads _ (g + 1) _ _ _ [UInt8.ofNat x.toNat, UInt8.ofNat y.toNat] ⟨rfl, fun _ => ⟨_, rfl, by simp, fun j u hu => ?_⟩⟩
  have ha : (⟨g, 0, none⟩ : Addr).add j = ⟨g, j, none⟩ := by unfold Addr.add; split <;> simp_all
  rw [ha, h.cell]
  simp only [bvals, List.map, u8_ofInt x h0 h1, u8_ofInt y h2 h3] at hu
  simpa using hu
/-- a post: what is returned; memory grew -/
def Ret (w : World) (v : Value) (e : Ending) (w' : World) : Prop := e = .returned v ∧ Below w.heap.size w w'
theorem step_append_row {P : Program} (wr : World) (e : TypeId) (news : List Value) {ops : Array Oper} {o : Oper} {a : Act} {K : Act → World → Prop} {Q : Exit → Act → World → Prop} {E : Prop} (hgd : o.guard = none) (s x : Operand) (t : TypeId)
    (ho : o.op = .call { callee := .builtin .append, args := #[s, x], argTypes := #[t, t] })
    (base size bytes : Nat) (z : Value) (hinfo : (P.info? e).map (fun i => (i.zero, i.size, i.bytes)) = some (some z, size, bytes)) (ht : P.underlying t = some (.slice e)) (hzs : z.cells.size = size) (hsz : 0 < size)
    (v : Value) (n : Nat) (xs : List Value) (hs : a.eval s = v) (hown : wr.ownsRow base e size v n xs)
    (m c : Nat) (hx : a.eval x = .slice (some ⟨wr.heap.size, 0, none⟩) m c) (hl : news.length = m * size) (h1 : ∀ u ∈ news, u.oneCell' = true)
    (h63 : n + m ≤ maxLen) (hbytes : (n + m) * bytes ≤ 140737488355328) (B : Nat) (w0 : World) (hb : Below B w0 wr) (hB : B ≤ base) (hbase : base ≤ wr.heap.size)
    (h : ∀ v' w', w'.ownsRow base e size v' (n + m) (xs ++ news) → Below B w0 w' → wr.grownBy w' v.ownBlock → (v'.ownBlock = v.ownBlock ∨ ∃ g, v'.ownBlock = some g ∧ wr.heap.size ≤ g) → wr.heap.size < w'.heap.size → K (a.put o.dst v') w') :
    if Region.wanted o (yielded ops a.tmps) = true then Oper.wp P o a (wr.alloc (.cells news.toArray e)) K Q else E := by
  have hw : Region.wanted o (yielded ops a.tmps) = true := by simp [Region.wanted, hgd]
  rw [if_pos hw]
  exact wp_append_new wr e news s x t ho base size bytes z hinfo ht hzs hsz v n xs hs hown m c hx hl h1 h63 hbytes B w0 hb hB hbase fun v' w' h2 h3 h4 h5 h6 => h v' w' h2 h3 h4 h5 h6
end Go.Proofs.YtefcmigbdfeaiaaDoor
