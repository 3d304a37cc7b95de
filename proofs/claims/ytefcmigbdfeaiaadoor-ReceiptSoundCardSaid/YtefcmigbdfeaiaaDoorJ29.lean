import Derived.Test.YtefcmigbdfeaiaaDoorJ28
set_option linter.unusedSimpArgs false
set_option linter.unusedVariables false
namespace Go.Proofs.YtefcmigbdfeaiaaDoor
set_option linter.unusedVariables false
open Go.RowKit Go.Instr
attribute [local go_sem] ba_get ByteArray.mk_append_mk
attribute [local go_sem ↓] Go.wp_at_zero Go.wp_at_succ
structure MayF (w0 : World) (fm : FuncId) (capsM : Array Value) (may : List UInt8 → Bool) : Prop where
  enters : Enters Tryd.prog fm
  calls : ∀ pl W, Nib.fit pl = true → pl.length ≤ 16 → Below w0.heap.size w0 W → Calls Tryd.prog fm (#[.string ⟨pl.toArray⟩] ++ capsM) W fun e W' => e = .returned (.bool (may pl)) ∧ Below W.heap.size W W'
def textsD (D : List (List UInt8 × Trie.T)) : List (List UInt8) := D.map fun x => Trie.textT x.2
def ToldI (w0 : World) (fm : FuncId) (capsM : Array Value) (bm bo : Nat) (D : List (List UInt8 × Trie.T)) (W : World) : Prop :=
  ∃ A n c, Blk W bo 36 #[.slice A n c] ∧ n = D.length ∧ W.ownsRow w0.heap.size 9 1 (.slice A n c) n (strv (textsD D)) ∧ Below w0.heap.size w0 W ∧ w0.heap.size ≤ bo ∧ Blk W bm 88 #[.func (.func fm) #[] capsM] ∧ w0.heap.size ≤ bm
theorem ToldI.next {w0 : World} {fm : FuncId} {capsM : Array Value} {bm bo : Nat} {D : List (List UInt8 × Trie.T)} {W W' : World} (h : ToldI w0 fm capsM bm bo D W) (hb : Below W.heap.size W W') : ToldI w0 fm capsM bm bo D W' := by
  obtain ⟨A, n, c, h1, h2, h3, h4, h5, h6, h7⟩ := h
  exact ⟨A, n, c, h1.below hb h1.lt, h2, own_below h3 hb, h4.nxt hb, h5, h6.below hb h6.lt, h7⟩
theorem ToldI.grow {w0 : World} {fm : FuncId} {capsM : Array Value} {bm bo : Nat} {D : List (List UInt8 × Trie.T)} {x : List UInt8 × Trie.T} {W1 w2 : World} {A A2 : Option Addr} {n c c2 : Nat} (h1 : Blk W1 bo 36 #[.slice A n c]) (h2 : n = D.length) (h3 : W1.ownsRow w0.heap.size 9 1 (.slice A n c) n (strv (textsD D))) (h5 : w0.heap.size ≤ bo)
    (h6 : Blk W1 bm 88 #[.func (.func fm) #[] capsM]) (h7 : w0.heap.size ≤ bm)
    (hown : w2.ownsRow w0.heap.size 9 1 (.slice A2 (n + 1) c2) (n + 1) (strv (textsD D) ++ [.string ⟨(Trie.textT x.2).toArray⟩])) (hb : Below w0.heap.size w0 w2) (hg : W1.grownBy w2 (Value.slice A n c).ownBlock) :
    ToldI w0 fm capsM bm bo (D ++ [x]) (w2.setCell ⟨bo, 0, none⟩ (.slice A2 (n + 1) c2)) := by
  have hbk := h1.grown hg (fun e => own_blk_ne h3 h1 (by decide) e.symm)
  have hbm := h6.grown hg (fun e => own_blk_ne h3 h6 (by decide) e.symm)
  refine ⟨A2, n + 1, c2, hbk.set_ 0 _, by rw [List.length_append, ← h2]; rfl, ?_, hb.setCell h5 _, h5, hbm.far (p := ⟨bo, 0, none⟩) (Blk.ne_ hbm hbk (by decide)) _, h7⟩
  rw [show strv (textsD (D ++ [x])) = strv (textsD D) ++ [.string ⟨(Trie.textT x.2).toArray⟩] by simp [strv, textsD]]
  exact hown.kept (only_setCell (World.grownBy.refl w2 (some bo)) (.inl rfl) _) (by
    have := own_blk_ne hown hbk (by decide)
    cases hv : (Value.slice A2 (n + 1) c2).ownBlock with
    | none => exact .inl rfl
    | some k => exact .inr (by rw [← hv]; exact this))
set_option maxRecDepth 100000 in
set_option maxHeartbeats 2000000 in
theorem told_visit (w0 : World) (fm : FuncId) (capsM : Array Value) (may : List UInt8 → Bool) (HM : MayF w0 fm capsM may) (bm bo : Nat) (D : List (List UInt8 × Trie.T)) (hD : D.length ≤ 100000) (pl : List UInt8) (t : Trie.T) (x : Value) (W : World) (hI : ToldI w0 fm capsM bm bo D W) (hn : t ≠ .nil) (ha : Trie.At pl t) (hk : KnotP w0 t x) :
    Calls Tryd.prog 84 #[.string ⟨pl.toArray⟩, x, .pointer (some ⟨bm, 0, none⟩), .pointer (some ⟨bo, 0, none⟩)] W fun e W' => e = .returned (.bool (may pl)) ∧ ToldI w0 fm capsM bm bo (if may pl then D ++ [(pl, t)] else D) W' := by
  obtain ⟨g, ps, rfl, hps, hbk, hks⟩ := blk_of_knot hk hn
  have HI := Lib.hid hI
  obtain ⟨A, n, c, h1, h2, h3, h4, h5, h6, h7⟩ := hI
  have HC := HM.calls pl W ha.fit (ha.len hn) h4
  have HE := HM.enters
  unfold Enters at HE
  have cm := h6.cell 0
  have cm' : W.cell? ⟨bm, 0, none⟩ = some (.func (.func fm) #[] capsM) := cm
  have HBK := Lib.hid hbk
  have Hps := Lib.hid hps
  clear cm h1 h2 h3 h4 h5 h6 h7 hbk hks hk hps ha hn HM
  cases hm : may pl with
  | false =>
    rw [hm] at HC
    have HC := Lib.hid HC
    rename_i HCo
    clear HCo hm
    have HP : Hid (∀ W', ToldI w0 fm capsM bm bo D W' → (fun e W' => e = Ending.returned (.bool false) ∧ ToldI w0 fm capsM bm bo (if false = true then D ++ [(pl, t)] else D) W') (Ending.returned (.bool false)) W') := Lib.hid (fun W' h => ⟨rfl, by rw [if_neg (by simp)]; exact h⟩)
    generalize (fun e W' => e = Ending.returned (.bool false) ∧ ToldI w0 fm capsM bm bo (if false = true then D ++ [(pl, t)] else D) W') = P at HP ⊢
    go_enter Tryd.func84, Tryd.ntmps84
    go_wp2_with (go_at_fn fm; refine HC.out.mono ?_; rintro e W1 ⟨rfl, hb⟩)
    exact HP.out _ (HI.out.next hb)
  | true =>
    rw [hm] at HC
    have HC := Lib.hid HC
    rename_i HCo
    clear HCo hm
    have HP : Hid (∀ W', ToldI w0 fm capsM bm bo (D ++ [(pl, t)]) W' → (fun e W' => e = Ending.returned (.bool true) ∧ ToldI w0 fm capsM bm bo (if true = true then D ++ [(pl, t)] else D) W') (Ending.returned (.bool true)) W') := Lib.hid (fun W' h => ⟨rfl, by rw [if_pos rfl]; exact h⟩)
    generalize (fun e W' => e = Ending.returned (.bool true) ∧ ToldI w0 fm capsM bm bo (if true = true then D ++ [(pl, t)] else D) W') = P at HP ⊢
    go_enter Tryd.func84, Tryd.ntmps84
    go_upto_region 3 with (go_at_fn fm; refine HC.out.mono ?_; rintro e W1 ⟨rfl, hb⟩)
    have HI1 := Lib.hid (HI.out.next hb)
    clear hb HI HC cm'
    obtain ⟨A, n, c, h1, h2, h3, h4, h5, h6, h7⟩ := HI1.out
    have HBK1 := HBK.out.below h4 HBK.out.lt
    have c2' : W1.cell? ⟨g, 35, none⟩ = some (.string ⟨(Trie.textT t).toArray⟩) := (KnotAt.of (Trie.sumsT_length _) Hps.out HBK1).c35
    clear HBK1
    have co : W1.cell? ⟨bo, 0, none⟩ = some (.slice A n c) := h1.cell 0
    have fo := h1.frozen 0
    have HH := Lib.hid (And.intro h1 (And.intro h2 (And.intro h3 (And.intro h4 (And.intro h5 (And.intro h6 h7))))))
    have hn1 : n ≤ 100000 := by rw [h2]; omega
    clear h1 h2 h3 h4 h5 h6 h7
    have hal1 : ∀ o : Obj, (W1.alloc o).cell? ⟨bo, 0, none⟩ = some (.slice A n c) := fun o => (((Below.refl _ W1).alloc (Nat.le_refl _) o).cell (p := ⟨bo, 0, none⟩) HH.out.1.lt).trans co
    have hal2 : ∀ o : Obj, (W1.alloc o).cell? ⟨g, 35, none⟩ = some (.string ⟨(Trie.textT t).toArray⟩) := fun o => (((Below.refl _ W1).alloc (Nat.le_refl _) o).cell (p := ⟨g, 35, none⟩) (World.block_lt_of_cell? _ _ c2')).trans c2'
    go_cut [17] (fun s17 wx => ToldI w0 fm capsM bm bo (D ++ [(pl, t)]) wx)
    case first =>
      go_region_law (refine step_append_new W1 9 [.string ⟨(Trie.textT t).toArray⟩] rfl _ _ 36 rfl w0.heap.size 1 16 _ info_str Tryd.underlying36 rfl (by decide) (.slice A n c) n _ rfl HH.out.2.2.1 1 1 rfl rfl (by simp [Value.oneCell']) (by simp only [maxLen]; omega) (by omega) w0.heap.size w0 HH.out.2.2.2.1 (Nat.le_refl _) HH.out.2.2.2.1.size ?_; intro v2 w2 hown2 hb2 hgr2 ho2 hlt2; obtain ⟨A2, cc2, rfl, _, _, _⟩ := own_form hown2; have hbk2 := HH.out.1.grown hgr2 (fun e => own_blk_ne HH.out.2.2.1 HH.out.1 (by decide) e.symm); have co2 := hbk2.cell 0; have fo2 := hbk2.frozen 0; have O2 := Lib.hid (And.intro hown2 (And.intro hb2 hgr2)); clear hown2 hb2 hgr2 hbk2)
      all_goals go_wp2
      all_goals go_meet
      all_goals first | exact ToldI.grow HH.out.1 HH.out.2.1 HH.out.2.2.1 HH.out.2.2.2.2.1 HH.out.2.2.2.2.2.1 HH.out.2.2.2.2.2.2 O2.out.1 O2.out.2.1 O2.out.2.2 | exact (ToldI.grow HH.out.1 HH.out.2.1 HH.out.2.2.1 HH.out.2.2.2.2.1 HH.out.2.2.2.2.2.1 HH.out.2.2.2.2.2.2 O2.out.1 O2.out.2.1 O2.out.2.2).next (Below.refl _ _).drew
    case rest =>
      have HC := Lib.hid hcut
      clear hcut
      go_wp2
      exact HP.out _ HC.out
end Go.Proofs.YtefcmigbdfeaiaaDoor

namespace Go.Proofs.YtefcmigbdfeaiaaDoor
set_option linter.unusedVariables false
open Go.RowKit Go.Instr
attribute [local go_sem] ba_get ByteArray.mk_append_mk
attribute [local go_sem ↓] Go.wp_at_zero Go.wp_at_succ
def TextsEnd (w : World) (l : List (List UInt8)) (e : Ending) (w' : World) : Prop :=
  ∃ A n c, e = .returned (.slice A n c) ∧ n = l.length ∧ w'.ownsRow w.heap.size 9 1 (.slice A n c) n (strv l) ∧ Below w.heap.size w w'
theorem own_lower {w : World} {base base' e size n : Nat} {v : Value} {xs : List Value} (h : w.ownsRow base e size v n xs) (hb : base' ≤ base) : w.ownsRow base' e size v n xs := by
  refine ⟨h.1, ?_⟩
  rcases h.2 with hn | ⟨g, cap, cur, h1, h2, rest⟩
  · exact .inl hn
  · exact .inr ⟨g, cap, cur, h1, Nat.le_trans hb h2, rest⟩
theorem TextsEnd.base {w W : World} {l : List (List UInt8)} {e : Ending} {w' : World} (hb : Below w.heap.size w W) (h : TextsEnd W l e w') : TextsEnd w l e w' := by
  obtain ⟨A, n, c, h1, h2, h3, h4⟩ := h
  exact ⟨A, n, c, h1, h2, own_lower h3 hb.size, hb.nxt h4⟩
def toldW (may : List UInt8 → Bool) (t : Trie.T) : List (List UInt8) := textsD (Trie.goT may t [])
theorem told_Visit (w0 : World) (fm : FuncId) (capsM : Array Value) (may : List UInt8 → Bool) (HM : MayF w0 fm capsM may) (bm bo : Nat) : Visit 100000 w0 84 #[.pointer (some ⟨bm, 0, none⟩), .pointer (some ⟨bo, 0, none⟩)] may (ToldI w0 fm capsM bm bo) where
  enters := enters_of (fn := Tryd.f84) (by kernel_rfl) (by kernel_rfl) rfl
  low := fun D W h => by obtain ⟨_, _, _, _, _, _, h, _⟩ := h; exact h
  next := fun D W W' h hb => h.next hb
  calls := fun D pl t x W hD hI hn ha hk => told_visit w0 fm capsM may HM bm bo D hD pl t x W hI hn ha hk
set_option maxHeartbeats 1000000 in
theorem trie_told (w : World) (t : Trie.T) (v : Value) (h : TrieP w t v) (hc : Trie.count t ≤ 20000) (fm : FuncId) (capsM : Array Value) (may : List UInt8 → Bool) (HM : MayF w fm capsM may) :
    Calls Tryd.prog 54 #[v, .func (.func fm) #[] capsM] w (TextsEnd w (toldW may t)) := by
  obtain ⟨hg, b, x, rfl, hbk, hk⟩ := h
  have HP : Hid (∀ A n c w', n = (toldW may t).length → w'.ownsRow w.heap.size 9 1 (.slice A n c) n (strv (toldW may t)) → Below w.heap.size w w' → TextsEnd w (toldW may t) (.returned (.slice A n c)) w') := Lib.hid (fun A n c w' h1 h2 h3 => ⟨A, n, c, rfl, h1, h2, h3⟩)
  have c0 : w.cell? ⟨b, 0, none⟩ = some x := hbk.cell 0
  have HLt := Lib.hid hbk.lt
  have HW : Hid (∀ W, ToldI w fm capsM w.heap.size (w.heap.size + 1) [] W → Calls Tryd.prog 62 #[x, .string ⟨#[]⟩, .func (.func 84) #[] #[.pointer (some ⟨w.heap.size, 0, none⟩), .pointer (some ⟨w.heap.size + 1, 0, none⟩)]] W (WalkEnd (ToldI w fm capsM w.heap.size (w.heap.size + 1)) (Trie.goT may t []))) :=
    Lib.hid (fun W hW => trie_walk 100000 w _ _ _ _ (told_Visit w fm capsM may HM w.heap.size (w.heap.size + 1)) t [] x [] W (by simpa using Trie.goT_short hg.wf hc _ []) hW (Trie.At.top hg) hk)
  have HD : Hid ((toldW may t).length = (Trie.goT may t []).length) := Lib.hid (by simp [toldW, textsD])
  generalize TextsEnd w (toldW may t) = P at HP ⊢
  have hx : x = .pointer none ∨ ∃ b2, x = .pointer (some ⟨b2, 0, none⟩) := by
    rcases hk.form with ⟨_, h⟩ | ⟨b2, _, _, h, _⟩
    · exact .inl h
    · exact .inr ⟨b2, h⟩
  clear hk hbk hg hc HM
  have HI0 : Hid (ToldI w fm capsM w.heap.size (w.heap.size + 1) [] ((w.alloc (.cells #[.func (.func fm) #[] capsM] 88)).alloc (.cells #[.slice none 0 0] 36))) := by
    have h1 := Blk.new (w.alloc (.cells #[.func (.func fm) #[] capsM] 88)) 36 #[.slice none 0 0]
    exact Lib.hid ⟨none, 0, 0, by simpa using h1, rfl, World.ownsRow_nil _ _ _ _, by go_grown, by omega, (Blk.new _ _ _).alloc _, Nat.le_refl _⟩
  have hal : ∀ o o2 : Obj, ((w.alloc o).alloc o2).cell? ⟨b, 0, none⟩ = some x := fun o o2 => ((((Below.refl _ w).alloc (Nat.le_refl _) o).alloc (by simp) o2).cell (p := ⟨b, 0, none⟩) HLt.out).trans c0
  rcases hx with rfl | ⟨b2, rfl⟩
  all_goals
    go_enter Tryd.func54, Tryd.ntmps54
    go_wp2_with (go_at_call 62; refine (HW.out _ HI0.out).mono ?_; rintro e w1 ⟨rfl, hI⟩; obtain ⟨A, n, c, h1, h2, h3, h4, h5, h6⟩ := hI; have co := h1.cell 0; have HH := Lib.hid (And.intro h1 (And.intro h2 (And.intro h3 h4))); clear h1 h2 h3 h4 h5 h6)
    exact HP.out _ _ _ _ (by rw [HD.out]; exact HH.out.2.1) HH.out.2.2.1 HH.out.2.2.2
def allW : List UInt8 → Bool := fun _ => true
theorem may_all (w : World) : MayF w 55 #[] allW where
  enters := enters_of (fn := Tryd.f55) (by kernel_rfl) (by kernel_rfl) rfl
  calls := fun pl W _ _ _ => by
    show Calls Tryd.prog 55 #[.string ⟨pl.toArray⟩] W fun e W' => e = .returned (.bool true) ∧ Below W.heap.size W W'
    go_enter Tryd.func55, Tryd.ntmps55
    go_wp2
    go_ret
    exact ⟨rfl, Below.refl _ _⟩
theorem trie_Nodes (w : World) (t : Trie.T) (v : Value) (h : TrieP w t v) (hc : Trie.count t ≤ 20000) :
    Calls Tryd.prog 17 #[v] w (TextsEnd w (toldW allW t)) := by
  have HP : Hid (∀ A n c w', n = (toldW allW t).length → w'.ownsRow w.heap.size 9 1 (.slice A n c) n (strv (toldW allW t)) → Below w.heap.size w w' → TextsEnd w (toldW allW t) (.returned (.slice A n c)) w') := Lib.hid (fun A n c w' h1 h2 h3 => ⟨A, n, c, rfl, h1, h2, h3⟩)
  have HT := Lib.hid (trie_told w t v h hc _ _ _ (may_all w))
  generalize TextsEnd w (toldW allW t) = P at HP ⊢
  obtain ⟨_, b, x, rfl, _, _⟩ := h
  clear hc
  go_enter Tryd.func17, Tryd.ntmps17
  go_wp2_with (go_at_call 54; refine HT.out.mono ?_; rintro e w1 ⟨A, n, c, rfl, h1, h2, h3⟩; have HH := Lib.hid (And.intro h1 (And.intro h2 h3)); clear h1 h2 h3)
  exact HP.out _ _ _ _ HH.out.1 HH.out.2.1 HH.out.2.2
def trailW (path : List UInt8) : List UInt8 → Bool := fun pl => decide (Nib.common pl path = pl.length)
set_option maxHeartbeats 1000000 in
theorem may_trail (w : World) (path : List UInt8) (hp : path.length ≤ 10000) (b : Nat) (hb : Blk w b 9 #[.string ⟨path.toArray⟩]) : MayF w 57 #[.pointer (some ⟨b, 0, none⟩)] (trailW path) where
  enters := enters_of (fn := Tryd.f57) (by kernel_rfl) (by kernel_rfl) rfl
  calls := fun pl W hf hl hW => by
    show Calls Tryd.prog 57 #[.string ⟨pl.toArray⟩, .pointer (some ⟨b, 0, none⟩)] W fun e W' => e = .returned (.bool (trailW path pl)) ∧ Below W.heap.size W W'
    have c0 : W.cell? ⟨b, 0, none⟩ = some (.string ⟨path.toArray⟩) := (hb.below hW hb.lt).cell 0
    have HCom : Hid (Calls Tryd.prog 58 #[.string ⟨pl.toArray⟩, .string ⟨path.toArray⟩] W fun e w' => e = .returned (.int .i64 ((Nib.common pl path : Nat) : Int)) ∧ Below W.heap.size W w') := Lib.hid (nib_Common pl path W (by omega) (by omega))
    have HR : Hid (trailW path pl = (((Nib.common pl path : Nat) : Int) == ((pl.length : Nat) : Int))) := Lib.hid (by unfold trailW; rw [Bool.eq_iff_iff]; simp; omega)
    clear hb hW
    go_enter Tryd.func57, Tryd.ntmps57
    go_wp2_with (go_at_call 58; refine HCom.out.mono ?_; rintro e w1 ⟨rfl, hb1⟩)
    go_ret
    exact ⟨ret_bool HR.out.symm, hb1⟩
set_option maxHeartbeats 1000000 in
theorem trie_Trail (w : World) (t : Trie.T) (v : Value) (h : TrieP w t v) (hc : Trie.count t ≤ 20000) (key : List UInt8) (hk : key.length ≤ 2000) :
    Calls Tryd.prog 20 #[v, .string ⟨key.toArray⟩] w (TextsEnd w (toldW (trailW (Nib.of key)) t)) := by
  have HP : Hid (∀ A n c w', n = (toldW (trailW (Nib.of key)) t).length → w'.ownsRow w.heap.size 9 1 (.slice A n c) n (strv (toldW (trailW (Nib.of key)) t)) → Below w.heap.size w w' → TextsEnd w (toldW (trailW (Nib.of key)) t) (.returned (.slice A n c)) w') := Lib.hid (fun A n c w' h1 h2 h3 => ⟨A, n, c, rfl, h1, h2, h3⟩)
  have HOf := Lib.hid (nib_Of key w hk)
  have HT : Hid (∀ W bp, Below w.heap.size w W → Blk W bp 9 #[.string ⟨(Nib.of key).toArray⟩] → Calls Tryd.prog 54 #[v, .func (.func 57) #[] #[.pointer (some ⟨bp, 0, none⟩)]] W (TextsEnd w (toldW (trailW (Nib.of key)) t))) :=
    Lib.hid (fun W bp h1 h2 => (trie_told W t v (h.next h1) hc _ _ _ (may_trail W (Nib.of key) (by rw [Nib.of_length]; omega) bp h2)).mono (fun e w' he => he.base h1))
  generalize TextsEnd w (toldW (trailW (Nib.of key)) t) = P at HP ⊢
  obtain ⟨_, b, x, rfl, _, _⟩ := h
  clear hc
  go_enter Tryd.func20, Tryd.ntmps20
  go_wp2_with (first | (go_at_call 56; refine HOf.out.mono ?_; rintro e w1 ⟨rfl, hb1⟩) | (go_at_call 54; refine (HT.out _ w1.heap.size (hb1.alloc hb1.size _) (Blk.new _ _ _)).mono ?_; rintro e w2 ⟨A, n, c, rfl, h1, h2, h3⟩; have HH := Lib.hid (And.intro h1 (And.intro h2 h3)); clear h1 h2 h3))
  exact HP.out _ _ _ _ HH.out.1 HH.out.2.1 HH.out.2.2
end Go.Proofs.YtefcmigbdfeaiaaDoor

namespace Go.Proofs.YtefcmigbdfeaiaaDoor
set_option linter.unusedVariables false
open Go.RowKit Go.Instr
attribute [local go_sem] ba_get ByteArray.mk_append_mk
attribute [local go_sem ↓] Go.wp_at_zero Go.wp_at_succ
namespace Trie
def ofW : T → List (List UInt8 × List UInt8) → T × Nat
  | t, [] => (t, 0)
  | t, x :: l => if putCode x.1 x.2 = 0 then ofW (put t (Nib.of x.1) x.2) l else (.nil, putCode x.1 x.2)
theorem putCode_zero {key value : List UInt8} (h : putCode key value = 0) : keyedW key = true ∧ value ≠ [] ∧ value.length ≤ 32 := by
  unfold putCode at h
  split at h
  · rename_i hk
    split at h
    · cases h
    · rename_i hv
      simp at hv
      exact ⟨hk, hv.1, hv.2⟩
  · cases h
end Trie
theorem icells_at {l : List (List UInt8 × List UInt8)} {i : Nat} (h : i < l.length) : (icells l)[2 * i]? = some (.string ⟨l[i].1.toArray⟩) ∧ (icells l)[2 * i + 1]? = some (.string ⟨l[i].2.toArray⟩) := by
  induction l generalizing i with
  | nil => simp at h
  | cons a l ih =>
    rcases i with _ | i
    · simp [icells]
    · have := ih (show i < l.length by simpa using h)
      rw [show 2 * (i + 1) = 2 * i + 1 + 1 by omega]
      simpa [icells] using this
theorem icells_length (l : List (List UInt8 × List UInt8)) : (icells l).length = 2 * l.length := by
  induction l with
  | nil => rfl
  | cons a l ih =>
    rw [show icells (a :: l) = .string ⟨a.1.toArray⟩ :: .string ⟨a.2.toArray⟩ :: icells l from rfl, List.length_cons, List.length_cons, ih, List.length_cons]; omega
set_option maxRecDepth 100000 in
set_option maxHeartbeats 1000000 in
theorem trie_Of (l : List (List UInt8 × List UInt8)) (hl : l.length ≤ 1000) (hs : ∀ x ∈ l, x.1.length ≤ 9223372036854775807 ∧ x.2.length ≤ 9223372036854775807) (w : World) (hT : Tbl w) (A : Option Addr) (c : Nat) (HR : Reads w w.heap.size 2 A l.length (icells l)) :
    Calls Tryd.prog 13 #[.slice A l.length c] w (TPutEnd w (Trie.ofW .nil l).1 (Trie.ofW .nil l).2) := by
  have HP : Hid (∀ (t' : Trie.T) (c : Nat) v' w', Trie.ofW .nil l = (t', c) → Below w.heap.size w w' → (c = 0 → TrieP w' t' v') → (c ≠ 0 → v' = .pointer none) → TPutEnd w (Trie.ofW .nil l).1 (Trie.ofW .nil l).2 (.returned (.tuple #[v', .int .i64 (c : Int)])) w') := Lib.hid (fun t' c v' w' h1 h2 h3 h4 => ⟨v', by rw [h1], h2, by rw [h1]; exact h3, by rw [h1]; exact h4⟩)
  generalize TPutEnd w (Trie.ofW .nil l).1 (Trie.ofW .nil l).2 = P at HP ⊢
  have HRR := Lib.hid HR
  have HS := Lib.hid hs
  have HTb := Lib.hid hT
  clear HR hs hT
  go_enter Tryd.func13, Tryd.ntmps13
  go_wp2_with (go_at_call 49; refine (trie_New _).mono ?_; rintro e w1 ⟨v0, rfl, hk0, hb0⟩; have H0 := Lib.hid (And.intro hk0 hb0); clear hk0 hb0)
  refine wp_loop_ghost_k (fun k a wr => ∀ Φ : Act → Prop, (∀ (s0 s1 s2 s3 s5 s6 s7 s8 s9 s13 s14 s15 s16 s17 s18 s19 s20 s21 s22 s23 s24 s25 s26 s27 s28 s29 s30 : Value) (i : Nat) (t : Trie.T) (v : Value), (i + k = l.length ∧ Trie.ofW .nil l = Trie.ofW t (l.drop i) ∧ Trie.count t ≤ i ∧ TrieP wr t v ∧ Below w.heap.size w wr) → Φ { tmps := #[s0, s1, s2, s3, v, s5, s6, s7, s8, s9, .slice A l.length c, .int .i64 l.length, .int .i64 (i : Int), s13, s14, s15, s16, s17, s18, s19, s20, s21, s22, s23, s24, s25, s26, s27, s28, s29, s30], defers := [] }) → Φ a) (l.length) ?_ ?_
  · refine fun Φ hΦ => hΦ _ _ _ _ _ _ _ _ _ _ _ _ _ _ _ _ _ _ _ _ _ _ _ _ _ _ _ (0) (.nil) (v0) ?_
    exact ⟨by omega, rfl, by simp [Trie.count], H0.out.1, H0.out.2⟩
  · intro k1 a1 wr1 hI1 J1 K1 hJ1 hK1
    refine hI1 (fun a => Code.wp _ _ _ a _) ?_
    clear hI1 a1
    intro s0 s1 s2 s3 s4 s5 s6 s7 s8 s9 s10 s11 s12 s13 s14 s15 s16 s17 s18 s19 s20 s21 s22 s23 s24 s25 s26 i t v hrel
    show Code.wp _ _ _ _ _
    obtain ⟨h1, h2, h3, hk, hb⟩ := hrel
    by_cases hi : i < l.length
    · obtain ⟨ad, off, rfl, hbl, hcell⟩ := HRR.out.form (by omega) (by omega)
      have ic := icells_at hi
      have hil := icells_length l
      have e0 : (icells l)[2 * i]'(by omega) = .string ⟨l[i].1.toArray⟩ := by
        have := ic.1; rw [List.getElem?_eq_getElem (by omega)] at this; exact Option.some.inj this
      have e1 : (icells l)[2 * i + 1]'(by omega) = .string ⟨l[i].2.toArray⟩ := by
        have := ic.2; rw [List.getElem?_eq_getElem (by omega)] at this; exact Option.some.inj this
      have q0 := hcell (2 * i) (by omega)
      have q1 := hcell (2 * i + 1) (by omega)
      rw [e0] at q0
      rw [e1] at q1
      have r0 : wr1.cell? ⟨ad, off + i * 2, none⟩ = some (.string ⟨l[i].1.toArray⟩) := by rw [show i * 2 = 2 * i by omega]; exact (hb.cell (p := ⟨ad, off + 2 * i, none⟩) hbl).trans q0
      have r1 : wr1.cell? ⟨ad, off + i * 2 + 1, none⟩ = some (.string ⟨l[i].2.toArray⟩) := by rw [show off + i * 2 + 1 = off + (2 * i + 1) by omega]; exact (hb.cell (p := ⟨ad, off + (2 * i + 1), none⟩) hbl).trans q1
      have hi1 : (i : Int) < l.length := by omega
      have hi0 : (0 : Int) ≤ i := by omega
      have hd : l.drop i = l[i] :: l.drop (i + 1) := List.drop_eq_getElem_cons hi
      have hlen := HS.out _ (List.getElem_mem hi)
      have HI := Lib.hid (And.intro h1 (And.intro h2 (And.intro h3 (And.intro hk (And.intro hb hd)))))
      clear ic hil e0 e1 q0 q1 h1 h2 h3 hk hb hcell hd
      generalize l[i] = x at *
      obtain ⟨key, value⟩ := x
      have HW4 : Hid (∀ f, Below wr1.heap.size wr1 (wr1.alloc (.cells f 26))) := Lib.hid (fun f => by go_grown)
      by_cases hpc : Trie.putCode key value = 0
      · have HPut : Hid (∀ W, Below wr1.heap.size wr1 W → Calls Tryd.prog 50 #[v, .string ⟨key.toArray⟩, .string ⟨value.toArray⟩] W (TPutEnd W (Trie.put t (Nib.of key) value) 0)) := Lib.hid (fun W hW => by
          rw [← hpc]
          exact trie_Put W t v (HI.out.2.2.2.1.next hW) (by have := HI.out.2.2.1; omega) (HTb.out.next (HI.out.2.2.2.2.1.nxt hW)) key value hlen.1 hlen.2)
        have HQ : Hid (Trie.ofW t (l.drop i) = Trie.ofW (Trie.put t (Nib.of key) value) (l.drop (i + 1))) := Lib.hid (by rw [HI.out.2.2.2.2.2, Trie.ofW, if_pos hpc])
        have HCn : Hid (Trie.count (Trie.put t (Nib.of key) value) ≤ i + 1) := Lib.hid (by have := Trie.count_put t (Nib.of key) value; have := HI.out.2.2.1; omega)
        clear hpc hlen
        generalize Trie.put t (Nib.of key) value = t2 at *
        go_wp2_with (go_at_call 50; refine (HPut.out _ (HW4.out _)).mono ?_; rintro e w3 ⟨v3, rfl, hb3, hk3, hn3⟩)
        refine Handed.intro (l.length - (i + 1)) ?_ (hJ1 _ _ _ (fun Φ hΦ => hΦ _ _ _ _ _ _ _ _ _ _ _ _ _ _ _ _ _ _ _ _ _ _ _ _ _ _ _ (i + 1) (t2) (v3) ?_))
        · have := HI.out.1; omega
        exact ⟨by have := HI.out.1; omega, HI.out.2.1.trans HQ.out, HCn.out, hk3 trivial, HI.out.2.2.2.2.1.nxt ((HW4.out _).nxt hb3)⟩
      · have HPut : Hid (∀ W, Below wr1.heap.size wr1 W → Calls Tryd.prog 50 #[v, .string ⟨key.toArray⟩, .string ⟨value.toArray⟩] W (TPutEnd W (Trie.put t (Nib.of key) value) (Trie.putCode key value))) := Lib.hid (fun W hW => by
          exact trie_Put W t v (HI.out.2.2.2.1.next hW) (by have := HI.out.2.2.1; omega) (HTb.out.next (HI.out.2.2.2.2.1.nxt hW)) key value hlen.1 hlen.2)
        have HQ : Hid (Trie.ofW t (l.drop i) = (.nil, Trie.putCode key value)) := Lib.hid (by rw [HI.out.2.2.2.2.2, Trie.ofW, if_neg hpc])
        have hpc1 : ((Trie.putCode key value : Int) != 0) = true := by simp; exact hpc
        have HNZ := Lib.hid hpc
        clear hpc hlen
        generalize Trie.put t (Nib.of key) value = t2 at *
        generalize Trie.putCode key value = pc at *
        go_wp2_with (go_at_call 50; refine (HPut.out _ (HW4.out _)).mono ?_; rintro e w3 ⟨v3, rfl, hb3, hk3, hn3⟩)
        exact HP.out _ _ _ _ (HI.out.2.1.trans HQ.out) (HI.out.2.2.2.2.1.nxt ((HW4.out _).nxt hb3)) (fun h => absurd h HNZ.out) (fun _ => rfl)
    · have hi1 : ((i : Int) < l.length) = False := by simp; omega
      have HQ : Hid (Trie.ofW t (l.drop i) = (t, 0)) := Lib.hid (by rw [List.drop_of_length_le (by omega), Trie.ofW])
      have HI := Lib.hid (And.intro h2 (And.intro hk hb))
      clear h1 h2 h3 hk hb hi
      go_wp2_with fail
      exact HP.out _ _ _ _ (HI.out.1.trans HQ.out) HI.out.2.2 (fun _ => HI.out.2.1) (fun h => absurd rfl h)
end Go.Proofs.YtefcmigbdfeaiaaDoor
