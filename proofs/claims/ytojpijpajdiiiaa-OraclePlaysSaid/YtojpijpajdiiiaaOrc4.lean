/- The walks of layer 6 (oracle): a step that signs what was not signed. No conditions. -/
import Derived.Test.YtojpijpajdiiiaaOrc3
namespace Go.Proofs.Ytojpijpajdiiiaa
set_option linter.unusedVariables false
open Go.RowKit Go.Instr
attribute [local go_sem] ba_get ByteArray.mk_append_mk add_zero_addr

theorem info_sg : (Try.prog.info? 37).map (fun i => (i.zero, i.size, i.bytes)) = some (some (.agg #[.string ⟨#[]⟩, .string ⟨#[]⟩, .bool false]), 3, 40) := by kernel_rfl

theorem tab_store {w : World} {mb : Nat} {l : List Sg} (hm : Hid (MapIs w sk mb (smap l 0))) (who mark : List UInt8) (h : Bool) (hn : atRow (who, mark) l = none) :
    ∃ w', (mapUpdate 44 (.map (some mb)) (sk (who, mark)) (.int .i64 (l.length : Int))).run Try.prog w = .ok () w' ∧ Hid (MapIs w' sk mb (smap (l ++ [(who, mark, h)]) 0)) ∧ Hid (w.grownBy w' (some mb)) := by
  obtain ⟨w', h1, h2, h3, h4⟩ := hm.out.store sk_type 44 3 Try.underlying44 (who, mark) (.int .i64 (l.length : Int))
  refine ⟨w', h1, Lib.hid ?_, Lib.hid h3⟩
  have ha : assoc (who, mark) (smap l 0) 0 = none := by rw [assoc_smap, hn]; rfl
  rw [assoc_none ha] at h2
  rw [smap_snoc, Nat.zero_add]
  exact h2

/-- what is to be shown behind the map's store, the append and the row's store -/
theorem sign_new_end {w w2 w3 w4 : World} {mb : Nat} {v v' : Value} {l : List Sg} {who mark : List UInt8} {h : Bool} (hT : Tab w mb v l) (hb : Below w.heap.size w w2)
    (hg : w2.grownBy w3 (some mb)) (hm : MapIs w3 sk mb (smap (l ++ [(who, mark, h)]) 0)) (hown : w4.ownsRow (mb + 2) 37 3 v' (l.length + 1) (srows l ++ srow (who, mark, h)))
    (hg4 : w3.grownBy w4 v.ownBlock) (ho : v'.ownBlock = v.ownBlock ∨ ∃ g, v'.ownBlock = some g ∧ w3.heap.size ≤ g) :
    Tab (w4.setCell ⟨mb + 1, 1, none⟩ v') mb v' (l ++ [(who, mark, h)]) ∧ Kept (TabX mb v) w (w4.setCell ⟨mb + 1, 1, none⟩ v') ∧ (v'.ownBlock = v.ownBlock ∨ ∃ g, v'.ownBlock = some g ∧ w.heap.size ≤ g) := by
  have hk2 : Kept (TabX mb v) w w2 := Kept.of_below hb
  have hk3 : Kept (TabX mb v) w w3 := hk2.grown hg (by intro k e _; injection e with e; exact .inl e.symm)
  have hk4 : Kept (TabX mb v) w w4 := hk3.grown hg4 (fun k e _ => .inr (.inr e))
  have hvl := hT.own.lt
  have hB4 : Blk w4 (mb + 1) 46 #[.map (some mb), v] := (((hT.blk.below hb hT.blk.lt).grown hg (by intro e; injection e with e; omega)).grown hg4 (by intro e; have := (hvl _ e.symm).1; omega))
  have hm4 : MapIs w4 sk mb (smap (l ++ [(who, mark, h)]) 0) := hm.kept (hg4.block _ hm.lt (by intro e; have := (hvl _ e.symm).1; omega))
  have hs := hk4.size
  refine ⟨⟨hB4.set_ 1 v', hm4.kept (Below.heap_setCell w4 ⟨mb + 1, 1, none⟩ v' mb (by show mb ≠ mb + 1; omega)), ?_⟩, ?_, ?_⟩
  · rw [srows_snoc, List.length_append]
    exact ownsRow_setCell_below hown (a := ⟨mb + 1, 1, none⟩) (by show mb + 1 < mb + 2; omega) v'
  · exact ⟨hk4.os, hk4.tape, hk4.output, by rw [World.size_setCell]; exact hk4.size, fun k hk hx => (Below.heap_setCell w4 ⟨mb + 1, 1, none⟩ v' k (fun e => hx (.inr (.inl e)))).trans (hk4.block k hk hx)⟩
  · rcases ho with e | ⟨g, e, hge⟩
    · exact .inl e
    · exact .inr ⟨g, e, Nat.le_trans hk3.size hge⟩

theorem sign_new_facts {w w2 w3 w4 : World} {mb : Nat} {v : Value} {l : List Sg} (hT : Tab w mb v l) (hb : Below w.heap.size w w2) (hg : w2.grownBy w3 (some mb)) (hg4 : w3.grownBy w4 v.ownBlock) :
    w4.cell? ⟨mb + 1, 1, none⟩ = some v ∧ w4.frozen? ⟨mb + 1, 1, none⟩ = false := by
  have hvl := hT.own.lt
  have hB4 : Blk w4 (mb + 1) 46 #[.map (some mb), v] := (((hT.blk.below hb hT.blk.lt).grown hg (by intro e; injection e with e; omega)).grown hg4 (by intro e; have := (hvl _ e.symm).1; omega))
  exact ⟨hB4.cell 1, hB4.frozen 1⟩
theorem sign_new_own {w w2 w3 : World} {mb : Nat} {v : Value} {l : List Sg} (hT : Tab w mb v l) (hb : Below w.heap.size w w2) (hg : w2.grownBy w3 (some mb)) :
    w3.ownsRow (mb + 2) 37 3 v l.length (srows l) ∧ w3.cell? ⟨mb + 1, 1, none⟩ = some v ∧ mb + 2 ≤ w3.heap.size ∧ w3.cell? ⟨mb + 1, 0, none⟩ = some (.map (some mb)) := by
  have hvl := hT.own.lt
  have hB3 : Blk w3 (mb + 1) 46 #[.map (some mb), v] := ((hT.blk.below hb hT.blk.lt).grown hg (by intro e; injection e with e; omega))
  exact ⟨own_keep (own_below hT.own hb) (fun k e => hg.block k (Nat.lt_of_lt_of_le (hvl k e).2 hb.size) (by intro e2; injection e2 with e2; have := (hvl k e).1; omega)), hB3.cell 1, by have := hB3.lt; omega, hB3.cell 0⟩

set_option maxHeartbeats 2000000 in
theorem orc_Sign_new (w : World) (mb : Nat) (v : Value) (l : List Sg) (hT : Tab w mb v l) (hl : l.length ≤ 1000) (who mark : List UInt8) (h : Bool) (hm : may who mark = true) (hn : atRow (who, mark) l = none) :
    Calls Try.prog 12 #[.pointer (some ⟨mb + 1, 0, none⟩), .string ⟨who.toArray⟩, .string ⟨mark.toArray⟩, .bool h] w (SignEnd w mb v l who mark h) := by
  obtain ⟨h1, h6, h32⟩ : 1 ≤ who.length ∧ who.length ≤ 6 ∧ mark.length = 32 := by simpa [may] using hm
  have hsg : sign l who mark h = (l ++ [(who, mark, h)], 0) := by
    unfold sign
    rw [if_neg (by omega), if_neg (by omega), hn]
    simp only []
    rw [if_neg (by omega)]
  have HP : Hid (∀ e w', (e = .returned (.int .i64 0) ∧ ∃ v', Tab w' mb v' (l ++ [(who, mark, h)]) ∧ Kept (TabX mb v) w w' ∧ (v'.ownBlock = v.ownBlock ∨ ∃ g, v'.ownBlock = some g ∧ w.heap.size ≤ g)) → SignEnd w mb v l who mark h e w') := Lib.hid (by
    intro e w' hh
    unfold SignEnd
    rw [hsg]
    exact hh)
  obtain ⟨A, c, rfl, HR, hc, _⟩ := own_form hT.own
  clear hsg
  have hlt := hT.blk.lt
  have hml := hT.map.lt
  have hc0 : w.cell? ⟨mb + 1, 0, none⟩ = some (.map (some mb)) := hT.blk.cell 0
  have hc1 : w.cell? ⟨mb + 1, 1, none⟩ = some (.slice A l.length c) := hT.blk.cell 1
  have HM := Lib.hid hT.map
  have HT := Lib.hid hT
  generalize SignEnd w mb (.slice A l.length c) l who mark h = P at HP ⊢
  clear hT hm HR
  have e0 : who.isEmpty = false := by cases who with | nil => simp at h1 | cons a b => rfl
  have e6 : ((6 : Int) < who.length) = False := by simp; omega
  have e9 : ((1024 : Int) ≤ l.length) = False := by simp; omega
  have e32 : ((mark.length : Int) = 32) = True := by simp; omega
  go_enter Try.func12, Try.ntmps12
  go_wp2
  go_region_held3 (fun w' => w'.cell? ⟨mb + 1, 0, none⟩ = some (.map (some mb))) (first | go_keep | assumption) (first | (go_at_call 17; refine (orc_key who mark _).mono ?_; rintro e w1 ⟨rfl, hb⟩; try simp only [World.size_drew, World.size_alloc] at hb; have hbw : Below w.heap.size w w1 := (by first | exact hb | exact hb.start); have hlk := tab_lookup (map_keep HM hbw) who mark; rw [hn] at hlk; have hc0' := hbw.cell (p := ⟨mb + 1, 0, none⟩) hlt; rw [hc0] at hc0'; have hc1' := hbw.cell (p := ⟨mb + 1, 1, none⟩) hlt; rw [hc1] at hc1'; clear hb))
  go_wp2
  go_region_held3 (fun w' => w'.cell? ⟨mb + 1, 0, none⟩ = some (.map (some mb)) ∧ w'.cell? ⟨mb + 1, 1, none⟩ = some (.slice A l.length c)) (first | go_keep | assumption | (constructor <;> assumption)) (first | (go_at_call 17; refine (orc_key who mark _).mono ?_; rintro e w2 ⟨rfl, hb2⟩; try simp only [World.size_drew, World.size_alloc] at hb2; have hbx : Below w.heap.size w w2 := hbw.nxt (by first | exact hb2 | exact hb2.start); obtain ⟨w3, hrun, hm3, hg3⟩ := tab_store (map_keep HM hbx) who mark h hn; have hc02 := hbx.cell (p := ⟨mb + 1, 0, none⟩) hlt; rw [hc0] at hc02; have hc12 := hbx.cell (p := ⟨mb + 1, 1, none⟩) hlt; rw [hc1] at hc12; have O3 := Lib.hid (sign_new_own HT.out hbx hg3.out); have hc13 := O3.out.2.1; have hc03 := O3.out.2.2.2; clear hb2))
  go_wp2_with (at_builtin; refine wpList_append_new w3 37 (srow (who, mark, h)) rfl _ _ 34 rfl (mb + 2) 3 40 _ info_sg Try.underlying34 rfl (by decide) (.slice A l.length c) l.length (srows l) rfl O3.out.1 1 1 rfl rfl (srow_one _) (by simp only [maxLen]; omega) (by omega) 0 w3 (Below.refl _ _) (Nat.zero_le _) O3.out.2.2.1 ?_; intro v4 w4 own4 _ hg4 ho4 hs4; obtain ⟨A4, c4, rfl, _, _, _⟩ := own_form own4; obtain ⟨hc4, hf4⟩ := sign_new_facts HT.out hbx hg3.out hg4; have H4 := Lib.hid (sign_new_end HT.out hbx hg3.out hm3.out own4 hg4 ho4); clear own4 hg4 ho4 hs4)
  exact HP.out _ _ ⟨rfl, _, H4.out⟩

theorem orc_Sign (w : World) (mb : Nat) (v : Value) (l : List Sg) (hT : Tab w mb v l) (hl : l.length ≤ 1000) (who mark : List UInt8) (h : Bool) :
    Calls Try.prog 12 #[.pointer (some ⟨mb + 1, 0, none⟩), .string ⟨who.toArray⟩, .string ⟨mark.toArray⟩, .bool h] w (SignEnd w mb v l who mark h) := by
  cases hm : may who mark with
  | false => exact orc_Sign_no w mb v l hT who mark h hm
  | true =>
    cases hn : atRow (who, mark) l with
    | none => exact orc_Sign_new w mb v l hT hl who mark h hm hn
    | some n => exact orc_Sign_old w mb v l hT hl who mark h hm n hn
end Go.Proofs.Ytojpijpajdiiiaa
