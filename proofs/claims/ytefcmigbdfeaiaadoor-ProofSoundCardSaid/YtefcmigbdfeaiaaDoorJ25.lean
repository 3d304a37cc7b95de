import Derived.Test.YtefcmigbdfeaiaaDoorJ24
set_option linter.unusedSimpArgs false
set_option linter.unusedVariables false
/- The walks of layer 10 (trie): Items, whole. No conditions. -/
namespace Go.Proofs.YtefcmigbdfeaiaaDoor
set_option linter.unusedVariables false
open Go.RowKit Go.Instr
attribute [local go_sem] ba_get ByteArray.mk_append_mk
attribute [local go_sem ↓] Go.wp_at_zero Go.wp_at_succ

namespace Trie
theorem sum_le_sum {α : Type} (f g : α → Nat) : ∀ l : List α, (∀ x ∈ l, f x ≤ g x) → (l.map f).sum ≤ (l.map g).sum
  | [], _ => Nat.le_refl _
  | a :: l, h => by
    have h1 := h a (by simp)
    have h2 := sum_le_sum f g l (fun x hx => h x (by simp [hx]))
    simp only [List.map_cons, List.sum_cons]; omega
theorem sum_add {α : Type} (f g : α → Nat) (l : List α) : (l.map fun x => f x + g x).sum = (l.map f).sum + (l.map g).sum := by
  induction l with
  | nil => rfl
  | cons a l ih => simp only [List.map_cons, List.sum_cons, ih]; omega
theorem sum_mul {α : Type} (f : α → Nat) (n : Nat) (l : List α) : (l.map fun x => n * f x).sum = n * (l.map f).sum := by
  induction l with
  | nil => rfl
  | cons a l ih => simp only [List.map_cons, List.sum_cons, ih, Nat.mul_add]
theorem filter_sum {α : Type} (p : α → Bool) (l : List α) : (l.filter p).length = (l.map fun x => if p x then 1 else 0).sum := by
  induction l with
  | nil => rfl
  | cons a l ih =>
    simp only [List.filter_cons, List.map_cons, List.sum_cons, ← ih]
    split <;> simp_all <;> omega
theorem nodes_le (t : T) : wf t → t ≠ .nil → nodes t + 2 ≤ 4 * count t ∧ (isBranch t = true → nodes t + 3 ≤ 4 * count t) := by
  induction t with
  | nil => intro _ h; exact absurd rfl h
  | leaf p v => intro _ _; simp [nodes, count, isBranch]
  | ext p t ih =>
    intro h _
    have hn : t ≠ .nil := fun e => by have := h.2.2.1; rw [e] at this; simp [isBranch] at this
    have := (ih h.2.2.2 hn).2 h.2.2.1
    simp only [nodes, count]
    exact ⟨by omega, fun h => by simp [isBranch] at h⟩
  | branch v kids ih =>
    intro h _
    have h1 := sum_le_sum (fun i => nodes (kids i) + 2 * (if !isNil (kids i) then 1 else 0)) (fun i => 4 * count (kids i)) (List.finRange 16) (fun i _ => by
      by_cases hn : kids i = .nil
      · simp [hn, nodes, isNil]
      · have := (ih i (h.1 i) hn).1
        have e : isNil (kids i) = false := by cases hk : kids i <;> simp_all [isNil]
        simp [e]; omega)
    rw [sum_add, sum_mul, sum_mul, ← filter_sum] at h1
    have h2 := h.2
    have h3 : ((List.finRange 16).filter fun i => !isNil (kids i)).length = many kids := rfl
    have h4 : ((List.finRange 16).map fun i => count (kids i)).sum = kidsCount kids := rfl
    rw [h3, h4] at h1
    rw [count_branch]
    simp only [nodes]
    split at h2 <;> rename_i hv <;> simp only [hv, if_true, if_false] <;> omega
theorem goT_len (may : List UInt8 → Bool) (t : T) : ∀ pl, (goT may t pl).length ≤ nodes t := by
  induction t with
  | nil => intro pl; simp [goT]
  | leaf p v => intro pl; simp only [goT, nodes]; split <;> simp
  | ext p t ih => intro pl; simp only [goT, nodes]; split <;> simp; have := ih (pl ++ p); omega
  | branch v kids ih =>
    intro pl
    simp only [goT, nodes]
    split
    · simp only [List.length_cons, List.length_flatMap]
      have := sum_le_sum (fun i => (goT may (kids i) (pl ++ [hb i])).length) (fun i => nodes (kids i)) (List.finRange 16) (fun i _ => ih i _)
      omega
    · simp
theorem goT_short {t : T} (hw : wf t) (hc : count t ≤ 20000) (may : List UInt8 → Bool) (pl : List UInt8) : (goT may t pl).length ≤ 100000 := by
  have h1 := goT_len may t pl
  by_cases hn : t = .nil
  · subst hn; simp [goT]
  · have := (nodes_le t hw hn).1; omega
/-- a trie's items, as keys -/
def itemsW (t : T) : List (List UInt8 × List UInt8) := (items t []).map fun x => (Nib.joined x.1, x.2)
theorem itemsD_all (t : T) : ∀ pl, wf t → itemsD (goT (fun _ => true) t pl) = (items t pl).map fun x => (Nib.joined x.1, x.2) := by
  induction t with
  | nil => intro pl _; rfl
  | leaf p v => intro pl h; simp [goT, itemsD, itemD, items, valT, pathT, h.2]
  | ext p t ih =>
    intro pl h
    have := ih (pl ++ p) h.2.2.2
    simp only [goT, if_true, items]
    rw [← this]
    simp [itemsD, itemD, valT]
  | branch v kids ih =>
    intro pl h
    simp only [goT, if_true, items, List.map_append, List.map_flatMap]
    have e : ∀ l : List (Fin 16), itemsD (l.flatMap fun i => goT (fun _ => true) (kids i) (pl ++ [hb i])) = l.flatMap fun i => (items (kids i) (pl ++ [hb i])).map fun x => (Nib.joined x.1, x.2) := by
      intro l
      induction l with
      | nil => rfl
      | cons a l ihl =>
        simp only [List.flatMap_cons]
        rw [← ih a _ (h.1 a), ← ihl]
        simp [itemsD]
    rw [← e]
    rw [show ∀ D, itemsD ((pl, T.branch v kids) :: D) = itemD (pl, T.branch v kids) ++ itemsD D from fun D => by simp [itemsD]]
    congr 1
    simp only [itemD, valT, pathT, List.append_nil]
    split <;> simp
end Trie
def ItemsEnd (w : World) (l : List (List UInt8 × List UInt8)) (e : Ending) (w' : World) : Prop :=
  ∃ A n c, e = .returned (.slice A n c) ∧ n = l.length ∧ w'.ownsRow w.heap.size 26 2 (.slice A n c) n (icells l) ∧ Below w.heap.size w w'
theorem items_Visit (w0 : World) (bo : Nat) : Visit 100000 w0 63 #[.pointer (some ⟨bo, 0, none⟩)] (fun _ => true) (ItemsI w0 bo) where
  enters := enters_of (fn := Tryd.f63) (by kernel_rfl) (by kernel_rfl) rfl
  low := fun D W h => by obtain ⟨_, _, _, _, _, _, h, _⟩ := h; exact h
  next := fun D W W' h hb => h.next hb
  calls := fun D pl t x W hD hI hn ha hk => items_visit w0 bo D hD pl t x W hI hn ha hk

set_option maxHeartbeats 1000000 in
theorem trie_Items (w : World) (t : Trie.T) (v : Value) (h : TrieP w t v) (hc : Trie.count t ≤ 20000) : Calls Tryd.prog 27 #[v] w (ItemsEnd w (Trie.itemsW t)) := by
  obtain ⟨hg, b, x, rfl, hbk, hk⟩ := h
  have HP : Hid (∀ A n c w', n = (Trie.itemsW t).length → w'.ownsRow w.heap.size 26 2 (.slice A n c) n (icells (Trie.itemsW t)) → Below w.heap.size w w' → ItemsEnd w (Trie.itemsW t) (.returned (.slice A n c)) w') := Lib.hid (fun A n c w' h1 h2 h3 => ⟨A, n, c, rfl, h1, h2, h3⟩)
  have c0 : w.cell? ⟨b, 0, none⟩ = some x := hbk.cell 0
  have HLt := Lib.hid hbk.lt
  have HW : Hid (∀ W, ItemsI w w.heap.size [] W → Calls Tryd.prog 62 #[x, .string ⟨#[]⟩, .func (.func 63) #[] #[.pointer (some ⟨w.heap.size, 0, none⟩)]] W (WalkEnd (ItemsI w w.heap.size) (Trie.goT (fun _ => true) t []))) :=
    Lib.hid (fun W hW => trie_walk 100000 w _ _ _ _ (items_Visit w w.heap.size) t [] x [] W (by simpa using Trie.goT_short hg.wf hc _ []) hW (Trie.At.top hg) hk)
  have HD : Hid (Trie.itemsD (Trie.goT (fun _ => true) t []) = Trie.itemsW t) := Lib.hid (Trie.itemsD_all t [] hg.wf)
  generalize ItemsEnd w (Trie.itemsW t) = P at HP ⊢
  have hx : x = .pointer none ∨ ∃ b2, x = .pointer (some ⟨b2, 0, none⟩) := by
    rcases hk.form with ⟨_, h⟩ | ⟨b2, _, _, h, _⟩
    · exact .inl h
    · exact .inr ⟨b2, h⟩
  clear hk hbk hg hc
  have HI0 : Hid (ItemsI w w.heap.size [] (w.alloc (.cells #[.slice none 0 0] 22))) := Lib.hid ⟨none, 0, 0, Blk.new _ _ _, rfl, World.ownsRow_nil _ _ _ _, by go_grown, Nat.le_refl _⟩
  have hal : ∀ o : Obj, (w.alloc o).cell? ⟨b, 0, none⟩ = some x := fun o => (((Below.refl _ w).alloc (Nat.le_refl _) o).cell (p := ⟨b, 0, none⟩) HLt.out).trans c0
  rcases hx with rfl | ⟨b2, rfl⟩
  all_goals
    go_enter Tryd.func27, Tryd.ntmps27
    go_wp2_with (go_at_call 62; refine (HW.out _ HI0.out).mono ?_; rintro e w1 ⟨rfl, hI⟩; obtain ⟨A, n, c, h1, h2, h3, h4, h5⟩ := hI; have co := h1.cell 0; have HH := Lib.hid (And.intro h1 (And.intro h2 (And.intro h3 h4))); clear h1 h2 h3 h4 h5)
    refine HP.out _ _ _ _ (by rw [← HD.out]; exact HH.out.2.1) (by rw [← HD.out]; exact HH.out.2.2.1) HH.out.2.2.2
end Go.Proofs.YtefcmigbdfeaiaaDoor

/- The walks of layer 10 (trie): told, with whatever test is handed in. No conditions. -/
namespace Go.Proofs.YtefcmigbdfeaiaaDoor
set_option linter.unusedVariables false
open Go.RowKit Go.Instr
attribute [local go_sem] ba_get ByteArray.mk_append_mk
attribute [local go_sem ↓] Go.wp_at_zero Go.wp_at_succ

/-- a test of places that is handed to told -/
structure MayF (w0 : World) (fm : FuncId) (capsM : Array Value) (may : List UInt8 → Bool) : Prop where
  enters : Enters Tryd.prog fm
  calls : ∀ pl W, Nib.fit pl = true → pl.length ≤ 16 → Below w0.heap.size w0 W → Calls Tryd.prog fm (#[.string ⟨pl.toArray⟩] ++ capsM) W fun e W' => e = .returned (.bool (may pl)) ∧ Below W.heap.size W W'
def textsD (D : List (List UInt8 × Trie.T)) : List (List UInt8) := D.map fun x => Trie.textT x.2
def ToldI (w0 : World) (fm : FuncId) (capsM : Array Value) (bm bo : Nat) (D : List (List UInt8 × Trie.T)) (W : World) : Prop :=
  ∃ A n c, Blk W bo 36 #[.slice A n c] ∧ n = D.length ∧ W.ownsRow w0.heap.size 9 1 (.slice A n c) n (strv (textsD D)) ∧ Below w0.heap.size w0 W ∧ w0.heap.size ≤ bo ∧ Blk W bm 88 #[.func (.func fm) #[] capsM] ∧ w0.heap.size ≤ bm
theorem ToldI.next {w0 : World} {fm : FuncId} {capsM : Array Value} {bm bo : Nat} {D : List (List UInt8 × Trie.T)} {W W' : World} (h : ToldI w0 fm capsM bm bo D W) (hb : Below W.heap.size W W') : ToldI w0 fm capsM bm bo D W' := by
  obtain ⟨A, n, c, h1, h2, h3, h4, h5, h6, h7⟩ := h
  exact ⟨A, n, c, h1.below hb h1.lt, h2, own_below h3 hb, h4.nxt hb, h5, h6.below hb h6.lt, h7⟩
theorem ToldI.grow {w0 : World} {fm : FuncId} {capsM : Array Value} {bm bo : Nat} {D : List (List UInt8 × Trie.T)} {x : List UInt8 × Trie.T} {W1 w2 : World} {A A2 : Option Addr} {n c c2 : Nat} (h1 : Blk W1 bo 36 #[.slice A n c]) (h2 : n = D.length) (h3 : W1.ownsRow w0.heap.size 9 1 (.slice A n c) n (strv (textsD D))) (h5 : w0.heap.size ≤ bo)
    (h6 : Blk W1 bm 88 #[.func (.func fm) #[] capsM]) (h7 : w0.heap.size ≤ bm)
    (hown : w2.ownsRow w0.heap.size 9 1 (.slice A2 (n + 1) c2) (n + 1) (strv (textsD D) ++ [.string ⟨(Trie.textT x.2).toArray⟩])) (hb : Below w0.heap.size w0 w2) (hg : W1.grownBy w2 (Value.slice A n c).ownBlock) :
    ToldI w0 fm capsM bm bo (D ++ [x]) (w2.setCell ⟨bo, 0, none⟩ (.slice A2 (n + 1) c2)) := by
  have hbk := h1.grown hg (fun e => own_blk_ne h3 h1 (by decide) e.symm)
  have hbm := h6.grown hg (fun e => own_blk_ne h3 h6 (by decide) e.symm)
  refine ⟨A2, n + 1, c2, hbk.set_ 0 _, by rw [List.length_append, ← h2]; rfl, ?_, hb.setCell h5 _, h5, hbm.far (p := ⟨bo, 0, none⟩) (Blk.ne_ hbm hbk (by decide)) _, h7⟩
  rw [show strv (textsD (D ++ [x])) = strv (textsD D) ++ [.string ⟨(Trie.textT x.2).toArray⟩] by simp [strv, textsD]]
  exact hown.kept (only_setCell (World.grownBy.refl w2 (some bo)) (.inl rfl) _) (by
    have := own_blk_ne hown hbk (by decide)
    cases hv : (Value.slice A2 (n + 1) c2).ownBlock with
    | none => exact .inl rfl
    | some k => exact .inr (by rw [← hv]; exact this))

set_option maxRecDepth 100000 in
set_option maxHeartbeats 2000000 in
theorem told_visit (w0 : World) (fm : FuncId) (capsM : Array Value) (may : List UInt8 → Bool) (HM : MayF w0 fm capsM may) (bm bo : Nat) (D : List (List UInt8 × Trie.T)) (hD : D.length ≤ 100000) (pl : List UInt8) (t : Trie.T) (x : Value) (W : World) (hI : ToldI w0 fm capsM bm bo D W) (hn : t ≠ .nil) (ha : Trie.At pl t) (hk : KnotP w0 t x) :
    Calls Tryd.prog 84 #[.string ⟨pl.toArray⟩, x, .pointer (some ⟨bm, 0, none⟩), .pointer (some ⟨bo, 0, none⟩)] W fun e W' => e = .returned (.bool (may pl)) ∧ ToldI w0 fm capsM bm bo (if may pl then D ++ [(pl, t)] else D) W' := by
  obtain ⟨g, ps, rfl, hps, hbk, hks⟩ := blk_of_knot hk hn
  have HI := Lib.hid hI
  obtain ⟨A, n, c, h1, h2, h3, h4, h5, h6, h7⟩ := hI
  have HC := HM.calls pl W ha.fit (ha.len hn) h4
  have HE := HM.enters
  unfold Enters at HE
  have cm := h6.cell 0
  have cm' : W.cell? ⟨bm, 0, none⟩ = some (.func (.func fm) #[] capsM) := cm
  have HBK := Lib.hid hbk
  have Hps := Lib.hid hps
  clear cm h1 h2 h3 h4 h5 h6 h7 hbk hks hk hps ha hn HM
  cases hm : may pl with
  | false =>
    rw [hm] at HC
    have HC := Lib.hid HC
    rename_i HCo
    clear HCo hm
    have HP : Hid (∀ W', ToldI w0 fm capsM bm bo D W' → (fun e W' => e = Ending.returned (.bool false) ∧ ToldI w0 fm capsM bm bo (if false = true then D ++ [(pl, t)] else D) W') (Ending.returned (.bool false)) W') := Lib.hid (fun W' h => ⟨rfl, by rw [if_neg (by simp)]; exact h⟩)
    generalize (fun e W' => e = Ending.returned (.bool false) ∧ ToldI w0 fm capsM bm bo (if false = true then D ++ [(pl, t)] else D) W') = P at HP ⊢
    go_enter Tryd.func84, Tryd.ntmps84
    go_wp2_with (go_at_fn fm; refine HC.out.mono ?_; rintro e W1 ⟨rfl, hb⟩)
    exact HP.out _ (HI.out.next hb)
  | true =>
    rw [hm] at HC
    have HC := Lib.hid HC
    rename_i HCo
    clear HCo hm
    have HP : Hid (∀ W', ToldI w0 fm capsM bm bo (D ++ [(pl, t)]) W' → (fun e W' => e = Ending.returned (.bool true) ∧ ToldI w0 fm capsM bm bo (if true = true then D ++ [(pl, t)] else D) W') (Ending.returned (.bool true)) W') := Lib.hid (fun W' h => ⟨rfl, by rw [if_pos rfl]; exact h⟩)
    generalize (fun e W' => e = Ending.returned (.bool true) ∧ ToldI w0 fm capsM bm bo (if true = true then D ++ [(pl, t)] else D) W') = P at HP ⊢
    go_enter Tryd.func84, Tryd.ntmps84
    go_upto_region 3 with (go_at_fn fm; refine HC.out.mono ?_; rintro e W1 ⟨rfl, hb⟩)
    have HI1 := Lib.hid (HI.out.next hb)
    clear hb HI HC cm'
    obtain ⟨A, n, c, h1, h2, h3, h4, h5, h6, h7⟩ := HI1.out
    have HBK1 := HBK.out.below h4 HBK.out.lt
    have c2' : W1.cell? ⟨g, 35, none⟩ = some (.string ⟨(Trie.textT t).toArray⟩) := (KnotAt.of (Trie.sumsT_length _) Hps.out HBK1).c35
    clear HBK1
    have co : W1.cell? ⟨bo, 0, none⟩ = some (.slice A n c) := h1.cell 0
    have fo := h1.frozen 0
    have HH := Lib.hid (And.intro h1 (And.intro h2 (And.intro h3 (And.intro h4 (And.intro h5 (And.intro h6 h7))))))
    have hn1 : n ≤ 100000 := by rw [h2]; omega
    clear h1 h2 h3 h4 h5 h6 h7
    have hal1 : ∀ o : Obj, (W1.alloc o).cell? ⟨bo, 0, none⟩ = some (.slice A n c) := fun o => (((Below.refl _ W1).alloc (Nat.le_refl _) o).cell (p := ⟨bo, 0, none⟩) HH.out.1.lt).trans co
    have hal2 : ∀ o : Obj, (W1.alloc o).cell? ⟨g, 35, none⟩ = some (.string ⟨(Trie.textT t).toArray⟩) := fun o => (((Below.refl _ W1).alloc (Nat.le_refl _) o).cell (p := ⟨g, 35, none⟩) (World.block_lt_of_cell? _ _ c2')).trans c2'
    go_cut [17] (fun s17 wx => ToldI w0 fm capsM bm bo (D ++ [(pl, t)]) wx)
    case first =>
      go_region_law (refine step_append_new W1 9 [.string ⟨(Trie.textT t).toArray⟩] rfl _ _ 36 rfl w0.heap.size 1 16 _ info_str Tryd.underlying36 rfl (by decide) (.slice A n c) n _ rfl HH.out.2.2.1 1 1 rfl rfl (by simp [Value.oneCell']) (by simp only [maxLen]; omega) (by omega) w0.heap.size w0 HH.out.2.2.2.1 (Nat.le_refl _) HH.out.2.2.2.1.size ?_; intro v2 w2 hown2 hb2 hgr2 ho2 hlt2; obtain ⟨A2, cc2, rfl, _, _, _⟩ := own_form hown2; have hbk2 := HH.out.1.grown hgr2 (fun e => own_blk_ne HH.out.2.2.1 HH.out.1 (by decide) e.symm); have co2 := hbk2.cell 0; have fo2 := hbk2.frozen 0; have O2 := Lib.hid (And.intro hown2 (And.intro hb2 hgr2)); clear hown2 hb2 hgr2 hbk2)
      all_goals go_wp2
      all_goals go_meet
      all_goals first | exact ToldI.grow HH.out.1 HH.out.2.1 HH.out.2.2.1 HH.out.2.2.2.2.1 HH.out.2.2.2.2.2.1 HH.out.2.2.2.2.2.2 O2.out.1 O2.out.2.1 O2.out.2.2 | exact (ToldI.grow HH.out.1 HH.out.2.1 HH.out.2.2.1 HH.out.2.2.2.2.1 HH.out.2.2.2.2.2.1 HH.out.2.2.2.2.2.2 O2.out.1 O2.out.2.1 O2.out.2.2).next (Below.refl _ _).drew
    case rest =>
      have HC := Lib.hid hcut
      clear hcut
      go_wp2
      exact HP.out _ HC.out
end Go.Proofs.YtefcmigbdfeaiaaDoor

/- The walks of layer 10 (trie): told, Nodes, Trail. No conditions. -/
namespace Go.Proofs.YtefcmigbdfeaiaaDoor
set_option linter.unusedVariables false
open Go.RowKit Go.Instr
attribute [local go_sem] ba_get ByteArray.mk_append_mk
attribute [local go_sem ↓] Go.wp_at_zero Go.wp_at_succ

def TextsEnd (w : World) (l : List (List UInt8)) (e : Ending) (w' : World) : Prop :=
  ∃ A n c, e = .returned (.slice A n c) ∧ n = l.length ∧ w'.ownsRow w.heap.size 9 1 (.slice A n c) n (strv l) ∧ Below w.heap.size w w'
theorem own_lower {w : World} {base base' e size n : Nat} {v : Value} {xs : List Value} (h : w.ownsRow base e size v n xs) (hb : base' ≤ base) : w.ownsRow base' e size v n xs := by
  refine ⟨h.1, ?_⟩
  rcases h.2 with hn | ⟨g, cap, cur, h1, h2, rest⟩
  · exact .inl hn
  · exact .inr ⟨g, cap, cur, h1, Nat.le_trans hb h2, rest⟩
theorem TextsEnd.base {w W : World} {l : List (List UInt8)} {e : Ending} {w' : World} (hb : Below w.heap.size w W) (h : TextsEnd W l e w') : TextsEnd w l e w' := by
  obtain ⟨A, n, c, h1, h2, h3, h4⟩ := h
  exact ⟨A, n, c, h1, h2, own_lower h3 hb.size, hb.nxt h4⟩
/-- the texts of the knots that may be gone into -/
def toldW (may : List UInt8 → Bool) (t : Trie.T) : List (List UInt8) := textsD (Trie.goT may t [])
theorem told_Visit (w0 : World) (fm : FuncId) (capsM : Array Value) (may : List UInt8 → Bool) (HM : MayF w0 fm capsM may) (bm bo : Nat) : Visit 100000 w0 84 #[.pointer (some ⟨bm, 0, none⟩), .pointer (some ⟨bo, 0, none⟩)] may (ToldI w0 fm capsM bm bo) where
  enters := enters_of (fn := Tryd.f84) (by kernel_rfl) (by kernel_rfl) rfl
  low := fun D W h => by obtain ⟨_, _, _, _, _, _, h, _⟩ := h; exact h
  next := fun D W W' h hb => h.next hb
  calls := fun D pl t x W hD hI hn ha hk => told_visit w0 fm capsM may HM bm bo D hD pl t x W hI hn ha hk

set_option maxHeartbeats 1000000 in
theorem trie_told (w : World) (t : Trie.T) (v : Value) (h : TrieP w t v) (hc : Trie.count t ≤ 20000) (fm : FuncId) (capsM : Array Value) (may : List UInt8 → Bool) (HM : MayF w fm capsM may) :
    Calls Tryd.prog 54 #[v, .func (.func fm) #[] capsM] w (TextsEnd w (toldW may t)) := by
  obtain ⟨hg, b, x, rfl, hbk, hk⟩ := h
  have HP : Hid (∀ A n c w', n = (toldW may t).length → w'.ownsRow w.heap.size 9 1 (.slice A n c) n (strv (toldW may t)) → Below w.heap.size w w' → TextsEnd w (toldW may t) (.returned (.slice A n c)) w') := Lib.hid (fun A n c w' h1 h2 h3 => ⟨A, n, c, rfl, h1, h2, h3⟩)
  have c0 : w.cell? ⟨b, 0, none⟩ = some x := hbk.cell 0
  have HLt := Lib.hid hbk.lt
  have HW : Hid (∀ W, ToldI w fm capsM w.heap.size (w.heap.size + 1) [] W → Calls Tryd.prog 62 #[x, .string ⟨#[]⟩, .func (.func 84) #[] #[.pointer (some ⟨w.heap.size, 0, none⟩), .pointer (some ⟨w.heap.size + 1, 0, none⟩)]] W (WalkEnd (ToldI w fm capsM w.heap.size (w.heap.size + 1)) (Trie.goT may t []))) :=
    Lib.hid (fun W hW => trie_walk 100000 w _ _ _ _ (told_Visit w fm capsM may HM w.heap.size (w.heap.size + 1)) t [] x [] W (by simpa using Trie.goT_short hg.wf hc _ []) hW (Trie.At.top hg) hk)
  have HD : Hid ((toldW may t).length = (Trie.goT may t []).length) := Lib.hid (by simp [toldW, textsD])
  generalize TextsEnd w (toldW may t) = P at HP ⊢
  have hx : x = .pointer none ∨ ∃ b2, x = .pointer (some ⟨b2, 0, none⟩) := by
    rcases hk.form with ⟨_, h⟩ | ⟨b2, _, _, h, _⟩
    · exact .inl h
    · exact .inr ⟨b2, h⟩
  clear hk hbk hg hc HM
  have HI0 : Hid (ToldI w fm capsM w.heap.size (w.heap.size + 1) [] ((w.alloc (.cells #[.func (.func fm) #[] capsM] 88)).alloc (.cells #[.slice none 0 0] 36))) := by
    have h1 := Blk.new (w.alloc (.cells #[.func (.func fm) #[] capsM] 88)) 36 #[.slice none 0 0]
    exact Lib.hid ⟨none, 0, 0, by simpa using h1, rfl, World.ownsRow_nil _ _ _ _, by go_grown, by omega, (Blk.new _ _ _).alloc _, Nat.le_refl _⟩
  have hal : ∀ o o2 : Obj, ((w.alloc o).alloc o2).cell? ⟨b, 0, none⟩ = some x := fun o o2 => ((((Below.refl _ w).alloc (Nat.le_refl _) o).alloc (by simp) o2).cell (p := ⟨b, 0, none⟩) HLt.out).trans c0
  rcases hx with rfl | ⟨b2, rfl⟩
  all_goals
    go_enter Tryd.func54, Tryd.ntmps54
    go_wp2_with (go_at_call 62; refine (HW.out _ HI0.out).mono ?_; rintro e w1 ⟨rfl, hI⟩; obtain ⟨A, n, c, h1, h2, h3, h4, h5, h6⟩ := hI; have co := h1.cell 0; have HH := Lib.hid (And.intro h1 (And.intro h2 (And.intro h3 h4))); clear h1 h2 h3 h4 h5 h6)
    exact HP.out _ _ _ _ (by rw [HD.out]; exact HH.out.2.1) HH.out.2.2.1 HH.out.2.2.2

def allW : List UInt8 → Bool := fun _ => true
theorem may_all (w : World) : MayF w 55 #[] allW where
  enters := enters_of (fn := Tryd.f55) (by kernel_rfl) (by kernel_rfl) rfl
  calls := fun pl W _ _ _ => by
    show Calls Tryd.prog 55 #[.string ⟨pl.toArray⟩] W fun e W' => e = .returned (.bool true) ∧ Below W.heap.size W W'
    go_enter Tryd.func55, Tryd.ntmps55
    go_wp2
    go_ret
    exact ⟨rfl, Below.refl _ _⟩
theorem trie_Nodes (w : World) (t : Trie.T) (v : Value) (h : TrieP w t v) (hc : Trie.count t ≤ 20000) :
    Calls Tryd.prog 17 #[v] w (TextsEnd w (toldW allW t)) := by
  have HP : Hid (∀ A n c w', n = (toldW allW t).length → w'.ownsRow w.heap.size 9 1 (.slice A n c) n (strv (toldW allW t)) → Below w.heap.size w w' → TextsEnd w (toldW allW t) (.returned (.slice A n c)) w') := Lib.hid (fun A n c w' h1 h2 h3 => ⟨A, n, c, rfl, h1, h2, h3⟩)
  have HT := Lib.hid (trie_told w t v h hc _ _ _ (may_all w))
  generalize TextsEnd w (toldW allW t) = P at HP ⊢
  obtain ⟨_, b, x, rfl, _, _⟩ := h
  clear hc
  go_enter Tryd.func17, Tryd.ntmps17
  go_wp2_with (go_at_call 54; refine HT.out.mono ?_; rintro e w1 ⟨A, n, c, rfl, h1, h2, h3⟩; have HH := Lib.hid (And.intro h1 (And.intro h2 h3)); clear h1 h2 h3)
  exact HP.out _ _ _ _ HH.out.1 HH.out.2.1 HH.out.2.2

/-- the places on the way to a path -/
def trailW (path : List UInt8) : List UInt8 → Bool := fun pl => decide (Nib.common pl path = pl.length)
set_option maxHeartbeats 1000000 in
theorem may_trail (w : World) (path : List UInt8) (hp : path.length ≤ 10000) (b : Nat) (hb : Blk w b 9 #[.string ⟨path.toArray⟩]) : MayF w 57 #[.pointer (some ⟨b, 0, none⟩)] (trailW path) where
  enters := enters_of (fn := Tryd.f57) (by kernel_rfl) (by kernel_rfl) rfl
  calls := fun pl W hf hl hW => by
    show Calls Tryd.prog 57 #[.string ⟨pl.toArray⟩, .pointer (some ⟨b, 0, none⟩)] W fun e W' => e = .returned (.bool (trailW path pl)) ∧ Below W.heap.size W W'
    have c0 : W.cell? ⟨b, 0, none⟩ = some (.string ⟨path.toArray⟩) := (hb.below hW hb.lt).cell 0
    have HCom : Hid (Calls Tryd.prog 58 #[.string ⟨pl.toArray⟩, .string ⟨path.toArray⟩] W fun e w' => e = .returned (.int .i64 ((Nib.common pl path : Nat) : Int)) ∧ Below W.heap.size W w') := Lib.hid (nib_Common pl path W (by omega) (by omega))
    have HR : Hid (trailW path pl = (((Nib.common pl path : Nat) : Int) == ((pl.length : Nat) : Int))) := Lib.hid (by unfold trailW; rw [Bool.eq_iff_iff]; simp; omega)
    clear hb hW
    go_enter Tryd.func57, Tryd.ntmps57
    go_wp2_with (go_at_call 58; refine HCom.out.mono ?_; rintro e w1 ⟨rfl, hb1⟩)
    go_ret
    exact ⟨ret_bool HR.out.symm, hb1⟩
set_option maxHeartbeats 1000000 in
theorem trie_Trail (w : World) (t : Trie.T) (v : Value) (h : TrieP w t v) (hc : Trie.count t ≤ 20000) (key : List UInt8) (hk : key.length ≤ 2000) :
    Calls Tryd.prog 20 #[v, .string ⟨key.toArray⟩] w (TextsEnd w (toldW (trailW (Nib.of key)) t)) := by
  have HP : Hid (∀ A n c w', n = (toldW (trailW (Nib.of key)) t).length → w'.ownsRow w.heap.size 9 1 (.slice A n c) n (strv (toldW (trailW (Nib.of key)) t)) → Below w.heap.size w w' → TextsEnd w (toldW (trailW (Nib.of key)) t) (.returned (.slice A n c)) w') := Lib.hid (fun A n c w' h1 h2 h3 => ⟨A, n, c, rfl, h1, h2, h3⟩)
  have HOf := Lib.hid (nib_Of key w hk)
  have HT : Hid (∀ W bp, Below w.heap.size w W → Blk W bp 9 #[.string ⟨(Nib.of key).toArray⟩] → Calls Tryd.prog 54 #[v, .func (.func 57) #[] #[.pointer (some ⟨bp, 0, none⟩)]] W (TextsEnd w (toldW (trailW (Nib.of key)) t))) :=
    Lib.hid (fun W bp h1 h2 => (trie_told W t v (h.next h1) hc _ _ _ (may_trail W (Nib.of key) (by rw [Nib.of_length]; omega) bp h2)).mono (fun e w' he => he.base h1))
  generalize TextsEnd w (toldW (trailW (Nib.of key)) t) = P at HP ⊢
  obtain ⟨_, b, x, rfl, _, _⟩ := h
  clear hc
  go_enter Tryd.func20, Tryd.ntmps20
  go_wp2_with (first | (go_at_call 56; refine HOf.out.mono ?_; rintro e w1 ⟨rfl, hb1⟩) | (go_at_call 54; refine (HT.out _ w1.heap.size (hb1.alloc hb1.size _) (Blk.new _ _ _)).mono ?_; rintro e w2 ⟨A, n, c, rfl, h1, h2, h3⟩; have HH := Lib.hid (And.intro h1 (And.intro h2 h3)); clear h1 h2 h3))
  exact HP.out _ _ _ _ HH.out.1 HH.out.2.1 HH.out.2.2

/-- the places of a range -/
def coverW (low high end_ : List UInt8) : List UInt8 → Bool := fun pl => decide (0 ≤ Nib.side pl low) && (end_.isEmpty || decide (Nib.side pl high ≤ 0))
set_option maxRecDepth 100000 in
set_option maxHeartbeats 2000000 in
theorem may_cover (w : World) (low high end_ : List UInt8) (h1 : low.length ≤ 10000) (h2 : high.length ≤ 10000) (b7 b5 b8 : Nat) (k7 : Blk w b7 9 #[.string ⟨low.toArray⟩]) (k5 : Blk w b5 9 #[.string ⟨end_.toArray⟩]) (k8 : Blk w b8 9 #[.string ⟨high.toArray⟩]) :
    MayF w 59 #[.pointer (some ⟨b7, 0, none⟩), .pointer (some ⟨b5, 0, none⟩), .pointer (some ⟨b8, 0, none⟩)] (coverW low high end_) where
  enters := enters_of (fn := Tryd.f59) (by kernel_rfl) (by kernel_rfl) rfl
  calls := fun pl W hf hl hW => by
    show Calls Tryd.prog 59 #[.string ⟨pl.toArray⟩, .pointer (some ⟨b7, 0, none⟩), .pointer (some ⟨b5, 0, none⟩), .pointer (some ⟨b8, 0, none⟩)] W fun e W' => e = .returned (.bool (coverW low high end_ pl)) ∧ Below W.heap.size W W'
    have HP : Hid (∀ r W', coverW low high end_ pl = r → Below W.heap.size W W' → (fun e W' => e = Ending.returned (.bool (coverW low high end_ pl)) ∧ Below W.heap.size W W') (Ending.returned (.bool r)) W') := Lib.hid (fun r W' a1 a2 => ⟨by rw [a1], a2⟩)
    have HC : Hid (coverW low high end_ pl = (decide (0 ≤ Nib.side pl low) && (end_.isEmpty || decide (Nib.side pl high ≤ 0)))) := Lib.hid rfl
    generalize (fun e W' => e = Ending.returned (.bool (coverW low high end_ pl)) ∧ Below W.heap.size W W') = P at HP ⊢
    generalize coverW low high end_ pl = cw at *
    have c7 : W.cell? ⟨b7, 0, none⟩ = some (.string ⟨low.toArray⟩) := (k7.below hW k7.lt).cell 0
    have c5 : W.cell? ⟨b5, 0, none⟩ = some (.string ⟨end_.toArray⟩) := (k5.below hW k5.lt).cell 0
    have c8 : W.cell? ⟨b8, 0, none⟩ = some (.string ⟨high.toArray⟩) := (k8.below hW k8.lt).cell 0
    have HLt := Lib.hid (And.intro (k7.below hW k7.lt).lt (And.intro (k5.below hW k5.lt).lt (k8.below hW k8.lt).lt))
    have HS1 : Hid (Calls Tryd.prog 60 #[.string ⟨pl.toArray⟩, .string ⟨low.toArray⟩] W fun e w' => e = .returned (.int .i64 (Nib.side pl low)) ∧ Below W.heap.size W w') := Lib.hid (nib_Side pl low W (by omega) (by omega))
    have HS2 : Hid (∀ W, Calls Tryd.prog 60 #[.string ⟨pl.toArray⟩, .string ⟨high.toArray⟩] W fun e w' => e = .returned (.int .i64 (Nib.side pl high)) ∧ Below W.heap.size W w') := Lib.hid (fun W => nib_Side pl high W (by omega) (by omega))
    clear k7 k5 k8 hW
    by_cases s1 : 0 ≤ Nib.side pl low
    · by_cases he : end_ = []
      · have HR : Hid (cw = true) := Lib.hid (by rw [HC.out]; simp [s1, he])
        subst he
        clear HC
        generalize Nib.side pl low = sl at *
        go_enter Tryd.func59, Tryd.ntmps59
        go_wp2_with (go_at_call 60; refine HS1.out.mono ?_; rintro e w1 ⟨rfl, hb1⟩; have d5 := (hb1.cell (p := ⟨b5, 0, none⟩) HLt.out.2.1).trans c5)
        exact HP.out _ _ HR.out hb1
      · have ne1 : (end_.toArray = #[]) = False := by simp [he]
        have ne2 : end_.isEmpty = false := by simp [he]
        by_cases s2 : Nib.side pl high ≤ 0
        · have HR : Hid (cw = true) := Lib.hid (by rw [HC.out]; simp [s1, s2])
          clear HC he
          generalize Nib.side pl low = sl at *
          generalize Nib.side pl high = sh at *
          go_enter Tryd.func59, Tryd.ntmps59
          have tok1 : True := trivial
          go_wp2_with (first | (go_at_call 60; have _t := tok1; refine HS1.out.mono ?_; rintro e w1 ⟨rfl, hb1⟩; have d5 := (hb1.cell (p := ⟨b5, 0, none⟩) HLt.out.2.1).trans c5; have d8 := (hb1.cell (p := ⟨b8, 0, none⟩) HLt.out.2.2).trans c8; clear _t tok1) | (go_at_call 60; refine (HS2.out _).mono ?_; rintro e w2 ⟨rfl, hb2⟩))
          exact HP.out _ _ HR.out (hb1.nxt hb2)
        · have HR : Hid (cw = false) := Lib.hid (by rw [HC.out]; simp [s1, s2, ne2])
          have s2' : (Nib.side pl high ≤ 0) = False := by simp [s2]
          clear HC he s2
          generalize Nib.side pl low = sl at *
          generalize Nib.side pl high = sh at *
          go_enter Tryd.func59, Tryd.ntmps59
          have tok1 : True := trivial
          go_wp2_with (first | (go_at_call 60; have _t := tok1; refine HS1.out.mono ?_; rintro e w1 ⟨rfl, hb1⟩; have d5 := (hb1.cell (p := ⟨b5, 0, none⟩) HLt.out.2.1).trans c5; have d8 := (hb1.cell (p := ⟨b8, 0, none⟩) HLt.out.2.2).trans c8; clear _t tok1) | (go_at_call 60; refine (HS2.out _).mono ?_; rintro e w2 ⟨rfl, hb2⟩))
          exact HP.out _ _ HR.out (hb1.nxt hb2)
    · have HR : Hid (cw = false) := Lib.hid (by rw [HC.out]; simp [s1])
      have s1' : (0 ≤ Nib.side pl low) = False := by simp [s1]
      clear HC s1
      generalize Nib.side pl low = sl at *
      go_enter Tryd.func59, Tryd.ntmps59
      go_wp2_with (go_at_call 60; refine HS1.out.mono ?_; rintro e w1 ⟨rfl, hb1⟩)
      exact HP.out _ _ HR.out hb1
end Go.Proofs.YtefcmigbdfeaiaaDoor
