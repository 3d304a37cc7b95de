import Derived.Test.YtcjafcbekegmlaaGreatDoorJ19
import Derived.Test.YtcjafcbekegmlaaGreatDoorJ20
set_option linter.unusedSimpArgs false
set_option linter.unusedVariables false
namespace Go.Proofs.YtcjafcbekegmlaaGreatDoor
set_option linter.unusedVariables false
open Go.RowKit Go.Instr
theorem blk_of_knot {w : World} {t : Trie.T} {x : Value} (hk : KnotP w t x) (hn : t ≠ .nil) : ∃ b ps, x = .pointer (some ⟨b, 0, none⟩) ∧ ps.length = 16 ∧ Blk w b 110 (knotC t ps).toArray ∧ ∀ i : Fin 16, KnotP w (Trie.kidsT t i) (ps.getD i.val undef) := by
  rcases hk.form with ⟨h, _⟩ | ⟨b, ps, _, h1, h2, h3, h4⟩
  · exact absurd h hn
  · exact ⟨b, ps, h1, h2, h3, h4⟩
theorem KnotP.base {w W : World} {t : Trie.T} {x : Value} (h : KnotP w t x) (hb : Below w.heap.size w W) : KnotP W t x := h.next hb
theorem trie_parted (t : Trie.T) (p : List UInt8) (hpt : Trie.pathT t = p) (hkt : Trie.kindT t = 1 ∨ Trie.kindT t = 2) (q v : List UInt8) (c : Nat) (hcp : c ≤ p.length) (hce : Trie.kindT t = 2 → c ≠ p.length) (hw0 : Trie.wf t) (hs0 : Trie.small t) (hc0 : Trie.count t ≤ 1000000) (hfq : Nib.fit q = true)
    (hw : Trie.wf (Trie.parted t c q v)) (hs : Trie.small (Trie.parted t c q v)) (hc : Trie.count (Trie.parted t c q v) ≤ 1000000) (x : Value) (w : World) (hT : Tbl w) (hk : KnotP w t x) :
    Calls Tryz.prog 113 #[x, .int .i64 (c : Int), .string ⟨q.toArray⟩, .string ⟨v.toArray⟩] w (KnotEnd w (Trie.parted t c q v)) := by
  have hn : t ≠ .nil := by intro e; subst e; simp [Trie.kindT] at hkt
  obtain ⟨g, ps, rfl, hps, hbk, hks⟩ := blk_of_knot hk hn
  cases t with
  | nil => exact absurd rfl hn
  | branch v0 kids => simp [Trie.kindT] at hkt
  | leaf p' w0 =>
    simp only [Trie.pathT] at hpt
    subst hpt
    have h1 := hs0 p' hw0.1 (by simp [Trie.look]; exact hw0.2)
    simp only [Trie.look, if_true] at h1
    simp only [Trie.parted] at hw hs hc ⊢
    cases hd : p'.drop c with
    | nil =>
      have := parted_leaf0 p' w0 q v c hcp (by omega) hd hfq hw hs hc g ps hps w hT hbk
      rwa [hd] at this
    | cons a o =>
      have hl := congrArg List.length hd
      rw [List.length_drop, List.length_cons] at hl
      have hfo : Nib.fit o = true := by
        have := Trie.fit_drop c hw0.1
        rw [hd] at this
        exact (Trie.fit_cons'.1 this).2
      have := parted_leaf1 p' w0 q v c hcp (by omega) a o hd hw0.1 hfq hw hs hc ⟨⟨hfo, hw0.2⟩, Trie.small_leaf (by omega) h1.2⟩ g ps hps w hT hbk
      rwa [hd] at this
  | ext p' s =>
    simp only [Trie.pathT] at hpt
    subst hpt
    have h1 := Trie.small_ext_path hw0 hs0
    have hsn : s ≠ .nil := fun e => by have := hw0.2.2.1; rw [e] at this; simp [Trie.isBranch] at this
    simp only [Trie.parted] at hw hs hc ⊢
    cases hd : p'.drop c with
    | nil =>
      have := hce rfl
      have hl := congrArg List.length hd
      rw [List.length_drop, List.length_nil] at hl
      omega
    | cons a o =>
      have hfo : Nib.fit o = true := by
        have := Trie.fit_drop c hw0.1
        rw [hd] at this
        exact (Trie.fit_cons'.1 this).2
      have := parted_ext p' s q v c hcp (by omega) a o hd hw0.1 hfq hw hs hc hsn ⟨Trie.joined_wf hfo hw0.2.2.2 hsn, Trie.small_joined_tail hd hw0.1 hsn hs0, hc0⟩ g ps hps w hT hbk (hks 0)
      rwa [hd] at this
theorem trie_put (t : Trie.T) : ∀ (q v : List UInt8) (x : Value) (w : World), Trie.wf t → Trie.small t → Trie.count t + 1 ≤ 1000000 → Nib.fit q = true → q.length ≤ 16 → v ≠ [] → v.length ≤ 32 → Tbl w → KnotP w t x →
    Calls Tryz.prog 80 #[x, .string ⟨q.toArray⟩, .string ⟨v.toArray⟩] w (KnotEnd w (Trie.put t q v)) := by
  induction t with
  | nil =>
    intro q v x w hw hs hc hq hl hv hvl hT hk
    rcases hk.form with ⟨_, rfl⟩ | ⟨b, ps, h, _⟩
    · exact put_nil q v ⟨hq, hv⟩ (Trie.small_leaf hl hvl) w hT
    · exact absurd rfl h
  | leaf p w0 =>
    intro q v x w hw hs hc hq hl hv hvl hT hk
    obtain ⟨hw2, hs2⟩ := Trie.small_put hw hs hq hl hv hvl
    have hc2 := Trie.count_put (.leaf p w0) q v
    have h1 := hs p hw.1 (by simp [Trie.look]; exact hw.2)
    simp only [Trie.look, if_true] at h1
    obtain ⟨g, ps, rfl, hps, hbk, hks⟩ := blk_of_knot hk (by simp)
    have hcl := Nib.common_le p q
    by_cases hcm : Nib.common p q = p.length ∧ Nib.common p q = q.length
    · simp only [Trie.put, if_pos hcm] at hw2 hs2 ⊢
      have hpq : p = q := by
        have := Trie.take_common p q
        rw [List.take_of_length_le (by omega), List.take_of_length_le (by omega)] at this
        exact this
      subst hpq
      exact put_same p w0 v (by omega) hw2 hs2 g ps hps w hT hbk
    · simp only [Trie.put, if_neg hcm] at hw2 hs2 hc2 ⊢
      have hbr : Trie.isBranch (Trie.parted (.leaf p w0) (Nib.common p q) (q.drop (Nib.common p q)) v) = true := Trie.isBranch_partedG _ _ _ _ _
      obtain ⟨hw3, hs3⟩ := Trie.of_joined_branch hbr (Trie.fit_take _ hq) hw2 hs2
      rw [Trie.count_joined] at hc2
      have hn3 : Trie.parted (.leaf p w0) (Nib.common p q) (q.drop (Nib.common p q)) v ≠ .nil := fun e => by rw [e] at hbr; simp [Trie.isBranch] at hbr
      have HPt : ∀ W, Below w.heap.size w W → Calls Tryz.prog 113 #[.pointer (some ⟨g, 0, none⟩), .int .i64 ((Nib.common p q : Nat) : Int), .string ⟨(q.drop (Nib.common p q)).toArray⟩, .string ⟨v.toArray⟩] W (KnotEnd W (Trie.parted (.leaf p w0) (Nib.common p q) (q.drop (Nib.common p q)) v)) :=
        fun W hW => trie_parted (.leaf p w0) p rfl (.inl rfl) _ v _ hcl.1 (by simp [Trie.kindT]) hw hs (by omega) (Trie.fit_drop _ hq) hw3 hs3 (by omega) _ W (hT.next hW) (hk.next hW)
      by_cases hcp : Nib.common p q = p.length
      · exact put_longer (.leaf p w0) _ p q v rfl rfl (by omega) (by omega) hcp (fun e => hcm ⟨hcp, e⟩) hn3 hw2 hs2 (by omega) g ps hps w hT hbk HPt
      · exact put_part (.leaf p w0) _ p q v rfl (.inl rfl) (by omega) (by omega) hcp hn3 hw2 hs2 (by omega) g ps hps w hT hbk HPt
  | ext p s ih =>
    intro q v x w hw hs hc hq hl hv hvl hT hk
    obtain ⟨hw2, hs2⟩ := Trie.small_put hw hs hq hl hv hvl
    have hc2 := Trie.count_put (.ext p s) q v
    have h1 := Trie.small_ext_path hw hs
    obtain ⟨g, ps, rfl, hps, hbk, hks⟩ := blk_of_knot hk (by simp)
    have hcl := Nib.common_le p q
    have hsn : s ≠ .nil := fun e => by have := hw.2.2.1; rw [e] at this; simp [Trie.isBranch] at this
    by_cases hcp : Nib.common p q = p.length
    · simp only [Trie.put, if_pos hcp] at hw2 hs2 hc2 ⊢
      rw [Trie.count_joined] at hc2
      exact put_below p q v s _ (by omega) (by omega) hcp hsn (Trie.put_nn _ _ _) hw2 hs2 (by omega) g ps hps w hT hbk (hks 0)
        (fun x W hTW hkW => ih _ v x W hw.2.2.2 (Trie.small_ext hw.1 hs) hc (Trie.fit_drop _ hq) (by rw [List.length_drop]; omega) hv hvl hTW hkW)
    · simp only [Trie.put, if_neg hcp] at hw2 hs2 hc2 ⊢
      have hbr : Trie.isBranch (Trie.parted (.ext p s) (Nib.common p q) (q.drop (Nib.common p q)) v) = true := Trie.isBranch_partedG _ _ _ _ _
      obtain ⟨hw3, hs3⟩ := Trie.of_joined_branch hbr (Trie.fit_take _ hq) hw2 hs2
      rw [Trie.count_joined] at hc2
      have hn3 : Trie.parted (.ext p s) (Nib.common p q) (q.drop (Nib.common p q)) v ≠ .nil := fun e => by rw [e] at hbr; simp [Trie.isBranch] at hbr
      have HPt : ∀ W, Below w.heap.size w W → Calls Tryz.prog 113 #[.pointer (some ⟨g, 0, none⟩), .int .i64 ((Nib.common p q : Nat) : Int), .string ⟨(q.drop (Nib.common p q)).toArray⟩, .string ⟨v.toArray⟩] W (KnotEnd W (Trie.parted (.ext p s) (Nib.common p q) (q.drop (Nib.common p q)) v)) :=
        fun W hW => trie_parted (.ext p s) p rfl (.inr rfl) _ v _ hcl.1 (fun _ => hcp) hw hs (by omega) (Trie.fit_drop _ hq) hw3 hs3 (by omega) _ W (hT.next hW) (hk.next hW)
      exact put_part (.ext p s) _ p q v rfl (.inr rfl) (by omega) (by omega) hcp hn3 hw2 hs2 (by omega) g ps hps w hT hbk HPt
  | branch w0 kids ih =>
    intro q v x w hw hs hc hq hl hv hvl hT hk
    obtain ⟨hw2, hs2⟩ := Trie.small_put hw hs hq hl hv hvl
    have hc2 := Trie.count_put (.branch w0 kids) q v
    obtain ⟨g, ps, rfl, hps, hbk, hks⟩ := blk_of_knot hk (by simp)
    cases q with
    | nil =>
      simp only [Trie.put] at hw2 hs2 hc2 ⊢
      exact put_own w0 kids v hw2 hs2 (by omega) g ps hps w hT hbk hks
    | cons b r =>
      simp only [Trie.put] at hw2 hs2 hc2 ⊢
      have hbr := Trie.fit_cons'.1 hq
      have hck := Trie.count_kid w0 kids (Trie.ix b)
      exact put_kid w0 kids b r v hbr.1 (by simp at hl; omega) hw2 hs2 (by omega) g ps hps w hT hbk hks
        (fun x W hTW hkW => ih (Trie.ix b) r v x W (hw.1 _) (Trie.small_kid hs _) (by omega) hbr.2 (by simp at hl; omega) hv hvl hTW hkW)
end Go.Proofs.YtcjafcbekegmlaaGreatDoor

namespace Go.Proofs.YtcjafcbekegmlaaGreatDoor
set_option linter.unusedVariables false
open Go.RowKit Go.Instr
attribute [local go_sem] ba_get ByteArray.mk_append_mk
attribute [local go_sem ↓] Go.wp_at_zero Go.wp_at_succ
namespace Trie
def nodes : T → Nat
  | .nil => 0
  | .leaf _ _ => 1
  | .ext _ t => 1 + nodes t
  | .branch _ kids => 1 + ((List.finRange 16).map fun i => nodes (kids i)).sum
end Trie
end Go.Proofs.YtcjafcbekegmlaaGreatDoor

namespace Go.Proofs.YtcjafcbekegmlaaGreatDoor
set_option linter.unusedVariables false
open Go.RowKit Go.Instr
attribute [local go_sem] ba_get ByteArray.mk_append_mk
attribute [local go_sem ↓] Go.wp_at_zero Go.wp_at_succ
namespace Trie
def keyedW (key : List UInt8) : Bool := !key.isEmpty && decide (key.length ≤ 8)
structure Good (t : T) : Prop where
  wf : wf t
  small : small t
  even : ∀ q, Nib.fit q = true → look t q ≠ [] → q.length % 2 = 0 ∧ q ≠ []
theorem Good.nil : Good .nil := ⟨trivial, small_nil, fun q _ h => absurd rfl h⟩
def putCode (key value : List UInt8) : Nat := if keyedW key then (if value.isEmpty || decide (32 < value.length) then 2 else 0) else 1
end Trie
def TrieP (w : World) (t : Trie.T) (v : Value) : Prop := Trie.Good t ∧ ∃ b x, v = .pointer (some ⟨b, 0, none⟩) ∧ Blk w b 104 #[x] ∧ KnotP w t x
theorem TrieP.next {w w1 : World} {t : Trie.T} {v : Value} (h : TrieP w t v) (hb : Below w.heap.size w w1) : TrieP w1 t v := by
  obtain ⟨h1, b, x, h2, h3, h4⟩ := h
  exact ⟨h1, b, x, h2, h3.below hb h3.lt, h4.next hb⟩
theorem trie_keyed (key : List UInt8) (hl : key.length ≤ 9223372036854775807) (w : World) :
    Calls Tryz.prog 77 #[.string ⟨key.toArray⟩] w fun e w' => e = .returned (.bool (Trie.keyedW key)) ∧ w = w' := by
  have HP : Hid (∀ b w', Trie.keyedW key = b → w = w' → (fun e w' => e = Ending.returned (.bool (Trie.keyedW key)) ∧ w = w') (Ending.returned (.bool b)) w') := Lib.hid (fun b w' h1 h2 => ⟨by rw [h1], h2⟩)
  generalize (fun e w' => e = Ending.returned (.bool (Trie.keyedW key)) ∧ w = w') = P at HP ⊢
  by_cases h0 : key = []
  · subst h0
    go_enter Tryz.func77, Tryz.ntmps77
    go_wp2
    exact HP.out _ _ rfl rfl
  · have ne1 : (key.toArray = #[]) = False := by simp [h0]
    have ne2 : key.isEmpty = false := by cases key <;> simp_all
    by_cases h8 : key.length ≤ 8
    · have h8' : (key.length : Int) ≤ 8 := by omega
      go_enter Tryz.func77, Tryz.ntmps77
      go_wp2
      exact HP.out _ _ (by simp [Trie.keyedW, ne2, h8]) rfl
    · have h8' : ((key.length : Int) ≤ 8) = False := by simp; omega
      go_enter Tryz.func77, Tryz.ntmps77
      go_wp2
      exact HP.out _ _ (by simp [Trie.keyedW, ne2, h8]) rfl
def NewEnd (w : World) (t : Trie.T) (e : Ending) (w' : World) : Prop := ∃ v, e = .returned v ∧ TrieP w' t v ∧ Below w.heap.size w w'
theorem trie_New (w : World) : Calls Tryz.prog 42 #[] w (NewEnd w .nil) := by
  have HP : Hid (∀ b w', Blk w' b 104 #[.pointer none] → Below w.heap.size w w' → NewEnd w .nil (.returned (.pointer (some ⟨b, 0, none⟩))) w') := Lib.hid (fun b w' h1 h2 => ⟨_, rfl, ⟨Trie.Good.nil, b, _, rfl, h1, .nil⟩, h2⟩)
  generalize NewEnd w .nil = P at HP ⊢
  go_enter Tryz.func42, Tryz.ntmps42
  go_wp2
  exact HP.out _ _ (Blk.new _ _ _) (by go_grown)
theorem trie_Len (w : World) (t : Trie.T) (v : Value) (h : TrieP w t v) : Calls Tryz.prog 78 #[v] w fun e w' => e = .returned (.int .i64 (Trie.count t : Int)) ∧ w = w' := by
  obtain ⟨hg, b, x, rfl, hbk, hk⟩ := h
  have HP : Hid (∀ n w', (Trie.count t : Int) = n → w = w' → (fun e w' => e = Ending.returned (.int .i64 (Trie.count t : Int)) ∧ w = w') (Ending.returned (.int .i64 n)) w') := Lib.hid (fun b w' h1 h2 => ⟨by rw [h1], h2⟩)
  have c0 : w.cell? ⟨b, 0, none⟩ = some x := hbk.cell 0
  generalize (fun e w' => e = Ending.returned (.int .i64 (Trie.count t : Int)) ∧ w = w') = P at HP ⊢
  rcases hk.form with ⟨rfl, rfl⟩ | ⟨b2, ps, hn, rfl, hps, hbk2, _⟩
  · clear hbk hk hg
    go_enter Tryz.func78, Tryz.ntmps78
    go_wp2
    exact HP.out _ _ rfl rfl
  · have c37 := (KnotAt.of (Trie.sumsT_length _) hps hbk2).c37
    clear hbk hk hg hbk2
    go_enter Tryz.func78, Tryz.ntmps78
    go_wp2
    exact HP.out _ _ rfl rfl
theorem trie_Root (w : World) (t : Trie.T) (v : Value) (h : TrieP w t v) : Calls Tryz.prog 32 #[v] w fun e w' => e = .returned (.string ⟨(Trie.sumT t).toArray⟩) ∧ w = w' := by
  obtain ⟨hg, b, x, rfl, hbk, hk⟩ := h
  have HP : Hid (∀ n w', Trie.sumT t = n → w = w' → (fun e w' => e = Ending.returned (.string ⟨(Trie.sumT t).toArray⟩) ∧ w = w') (Ending.returned (.string ⟨n.toArray⟩)) w') := Lib.hid (fun b w' h1 h2 => ⟨by rw [h1], h2⟩)
  have c0 : w.cell? ⟨b, 0, none⟩ = some x := hbk.cell 0
  generalize (fun e w' => e = Ending.returned (.string ⟨(Trie.sumT t).toArray⟩) ∧ w = w') = P at HP ⊢
  rcases hk.form with ⟨rfl, rfl⟩ | ⟨b2, ps, hn, rfl, hps, hbk2, _⟩
  · clear hbk hk hg
    go_enter Tryz.func32, Tryz.ntmps32
    go_wp2
    exact HP.out _ _ rfl rfl
  · have c36 := (KnotAt.of (Trie.sumsT_length _) hps hbk2).c36
    clear hbk hk hg hbk2
    go_enter Tryz.func32, Tryz.ntmps32
    go_wp2
    exact HP.out _ _ rfl rfl
end Go.Proofs.YtcjafcbekegmlaaGreatDoor

namespace Go.Proofs.YtcjafcbekegmlaaGreatDoor
set_option linter.unusedVariables false
open Go.RowKit Go.Instr
attribute [local go_sem] ba_get ByteArray.mk_append_mk
attribute [local go_sem ↓] Go.wp_at_zero Go.wp_at_succ
namespace Trie
theorem keyed_len {key : List UInt8} (h : keyedW key = true) : key.length ≤ 8 ∧ key ≠ [] := by
  simp [keyedW] at h
  exact ⟨h.2, h.1⟩
end Trie
end Go.Proofs.YtcjafcbekegmlaaGreatDoor
