import Derived.Test.YtefcmigbdfeaiaaDoorJ43
import Derived.Test.YtefcmigbdfeaiaaDoorJ36
set_option linter.unusedSimpArgs false
set_option linter.unusedVariables false
/- Plain laws: the nodes of a range, and of a part of it. No program in sight. -/
namespace Go.Proofs.YtefcmigbdfeaiaaDoor
set_option linter.unusedVariables false
theorem sub_flat {α β : Type} (f g : α → List β) : ∀ (l : List α), (∀ x ∈ l, (f x).Sublist (g x)) → (l.flatMap f).Sublist (l.flatMap g)
  | [], _ => List.Sublist.refl _
  | x :: l, h => by
    rw [List.flatMap_cons, List.flatMap_cons]
    exact (h x (by simp)).append (sub_flat f g l fun y hy => h y (by simp [hy]))
theorem goT_sub (m1 m2 : List UInt8 → Bool) (h : ∀ pl, m1 pl = true → m2 pl = true) (t : Trie.T) : ∀ pl, (Trie.goT m1 t pl).Sublist (Trie.goT m2 t pl) := by
  induction t with
  | nil => intro pl; simp [Trie.goT]
  | leaf p v =>
    intro pl
    simp only [Trie.goT]
    by_cases h1 : m1 pl = true
    · rw [if_pos h1, if_pos (h pl h1)]
      exact List.Sublist.refl _
    · rw [if_neg h1]; exact List.nil_sublist _
  | ext p t ih =>
    intro pl
    simp only [Trie.goT]
    by_cases h1 : m1 pl = true
    · rw [if_pos h1, if_pos (h pl h1)]
      exact (ih _).cons_cons _
    · rw [if_neg h1]; exact List.nil_sublist _
  | branch v kids ih =>
    intro pl
    simp only [Trie.goT]
    by_cases h1 : m1 pl = true
    · rw [if_pos h1, if_pos (h pl h1)]
      exact (sub_flat _ _ _ fun i _ => ih i _).cons_cons _
    · rw [if_neg h1]; exact List.nil_sublist _
theorem told_sub (m1 m2 : List UInt8 → Bool) (h : ∀ pl, m1 pl = true → m2 pl = true) (t : Trie.T) : (toldW m1 t).Sublist (toldW m2 t) :=
  (goT_sub m1 m2 h t []).map _
theorem side_empty (x : List UInt8) : Nib.side x (Nib.of []) = 1 := by
  rw [Nib.side_eq]
  have : Op.bytesLess x (Nib.of []) = false := by
    show Op.bytesLess x [] = false
    cases x <;> rfl
  rw [if_pos this]
theorem cover_all : coverW (Nib.of []) (Nib.of []) [] = allW := by
  funext pl
  simp [coverW, allW, side_empty]
theorem cover_from (a b : List UInt8) (pl : List UInt8) (h : coverW (Nib.of a) (Nib.of b) b pl = true) : coverW (Nib.of a) (Nib.of []) [] pl = true := by
  simp [coverW] at h ⊢
  exact h.1
theorem cover_end (a b : List UInt8) (pl : List UInt8) (h : coverW (Nib.of a) (Nib.of b) b pl = true) : coverW (Nib.of []) (Nib.of b) b pl = true := by
  simp [coverW, side_empty] at h ⊢
  exact h.2
theorem cover_any (a b : List UInt8) (pl : List UInt8) (h : coverW (Nib.of a) (Nib.of b) b pl = true) : allW pl = true := rfl
theorem trail_cover (key a b : List UInt8) (h1 : Op.bytesLess key a = false) (h2 : b = [] ∨ Op.bytesLess key b = true) (pl : List UInt8) (h : trailW (Nib.of key) pl = true) : coverW (Nib.of a) (Nib.of b) b pl = true := by
  have hp : Nib.of key = pl ++ (Nib.of key).drop pl.length := Trie.prefix_common.1 (of_decide_eq_true h)
  have g1 : 0 ≤ Nib.side pl (Nib.of a) := by
    rcases Nib.side_cases pl (Nib.of a) with e | e | e
    · have := (Nib.side_below ((Nib.of key).drop pl.length) e).1
      rw [← hp, Nib.blt_of, h1] at this
      cases this
    · omega
    · omega
  have g2 : b = [] ∨ Nib.side pl (Nib.of b) ≤ 0 := by
    rcases h2 with h2 | h2
    · exact .inl h2
    · refine .inr ?_
      rcases Nib.side_cases pl (Nib.of b) with e | e | e
      · omega
      · omega
      · have := Nib.side_above ((Nib.of key).drop pl.length) e
        rw [← hp, Nib.blt_of, h2] at this
        cases this
  simp only [coverW, Bool.and_eq_true, Bool.or_eq_true, decide_eq_true_eq]
  exact ⟨g1, g2.imp (fun e => by rw [e]; rfl) id⟩
end Go.Proofs.YtefcmigbdfeaiaaDoor

/- Layer 10's laws: TrieNodes. No conditions. -/
namespace Go.Proofs.YtefcmigbdfeaiaaDoor
set_option linter.unusedVariables false
open Go.RowKit Go.Instr
attribute [local go_sem] ba_get ByteArray.mk_append_mk
attribute [local go_sem ↓] Go.wp_at_zero Go.wp_at_succ
theorem Trie.Good.ofW : ∀ (l : List Trie.KV) (t : Trie.T), Trie.Good t → (Trie.ofW t l).2 = 0 → Trie.Good (Trie.ofW t l).1 ∧ Trie.count (Trie.ofW t l).1 ≤ Trie.count t + l.length
  | [], t, h, _ => ⟨h, by simp [Trie.ofW]⟩
  | x :: l, t, h, hc => by
    unfold Trie.ofW at hc ⊢
    by_cases hp : Trie.putCode x.1 x.2 = 0
    · rw [if_pos hp] at hc ⊢
      obtain ⟨a1, a2, a3⟩ := Trie.putCode_zero hp
      obtain ⟨b1, b2⟩ := Trie.Good.ofW l _ (Trie.Good.put h a1 a2 a3) hc
      have := Trie.count_put t (Nib.of x.1) x.2
      exact ⟨b1, by rw [List.length_cons]; omega⟩
    · rw [if_neg hp] at hc
      exact absurd hc hp
theorem spots_at {t : Trie.T} (h : Trie.Good t) (hc : Trie.count t ≤ 2000) : (Trie.goT allW t []).length ≤ 100000 ∧ ∀ x ∈ Trie.goT allW t [], x.1.length ≤ 1000 := by
  refine ⟨Trie.goT_short h.wf (by omega) _ _, fun x hx => ?_⟩
  have key : ∀ (t : Trie.T) (pl : List UInt8), Trie.At pl t → ∀ x ∈ Trie.goT allW t pl, x.1.length ≤ 16 := by
    intro t
    induction t with
    | nil => intro pl _ x hx; cases hx
    | leaf p v => intro pl ha x hx; simp [Trie.goT, allW] at hx; subst hx; exact ha.len (by simp)
    | ext p t ih =>
      intro pl ha x hx
      simp only [Trie.goT, allW, if_true, List.mem_cons] at hx
      rcases hx with rfl | hx
      · exact ha.len (by simp)
      · exact ih _ ha.below x hx
    | branch v kids ih =>
      intro pl ha x hx
      simp only [Trie.goT, allW, if_true, List.mem_cons, List.mem_flatMap] at hx
      rcases hx with rfl | ⟨i, _, hx⟩
      · exact ha.len (by simp)
      · exact ih i _ (ha.kid i) x hx
  have := key t [] (Trie.At.top h) x hx
  omega
theorem same_told {W : World} {A B : Option Addr} {l : List (List UInt8)} (c d : Nat) (ra : Reads W W.heap.size 1 A l.length (strv l)) (rb : Reads W W.heap.size 1 B l.length (strv l)) (hl : l.length ≤ 100000) :
    Calls Tryd.prog 18 #[.slice A l.length c, .slice B l.length d] W fun e w' => e = .returned (.bool true) ∧ Below W.heap.size W w' := by
  have := book_SameTexts A B _ _ c d l l W ra rb (by omega) (by omega)
  rwa [decide_eq_true rfl] at this
set_option maxRecDepth 100000 in
set_option maxHeartbeats 4000000 in
theorem law_TrieNodes (w : World) (A0 : Option Addr) (c0 : Nat) (L : List Trie.KV) (key ya yb : List UInt8) (HR0 : Reads w w.heap.size 2 A0 L.length (icells L)) (hk : key.length ≤ 9223372036854775807) (hya : ya.length ≤ 9223372036854775807) (hyb : yb.length ≤ 9223372036854775807) (hT : Tbl w) :
    Calls Tryd.prog 3 #[.slice A0 L.length c0, .string ⟨key.toArray⟩, .agg #[.string ⟨ya.toArray⟩, .string ⟨yb.toArray⟩]] w fun e w' => e = .returned (.bool true) ∧ Below w.heap.size w w' := by
  have HP : Hid (∀ w', Below w.heap.size w w' → (fun e w' => e = Ending.returned (.bool true) ∧ Below w.heap.size w w') (Ending.returned (.bool true)) w') := Lib.hid (fun W' a2 => ⟨rfl, a2⟩)
  generalize (fun e w' => e = Ending.returned (.bool true) ∧ Below w.heap.size w w') = P at HP ⊢
  have HTb := Lib.hid hT
  have HA := Lib.hid HR0
  clear hT HR0
  go_enter Tryd.func3, Tryd.ntmps3
  go_upto_region 1 with fail
  obtain ⟨pe, hpe⟩ : ∃ pe, w.heap.size = pe := ⟨_, rfl⟩
  have bk : Hid (Blk (w.alloc (.cells #[.string ⟨ya.toArray⟩, .string ⟨yb.toArray⟩] 23)) pe 23 #[.string ⟨ya.toArray⟩, .string ⟨yb.toArray⟩] ∧ Below w.heap.size w (w.alloc (.cells #[.string ⟨ya.toArray⟩, .string ⟨yb.toArray⟩] 23))) := Lib.hid (by subst hpe; exact ⟨Blk.new w _ _, by go_grown⟩)
  try rw [hpe]
  generalize (w.alloc (.cells #[.string ⟨ya.toArray⟩, .string ⟨yb.toArray⟩] 23)) = w0 at bk ⊢
  clear hpe
  have HB0 := Lib.hid bk.out.2
  have HCells : Hid (∀ W, Below w0.heap.size w0 W → W.cell? ⟨pe, 0, none⟩ = some (.string ⟨ya.toArray⟩) ∧ W.cell? ⟨pe, 1, none⟩ = some (.string ⟨yb.toArray⟩)) :=
    Lib.hid (fun W hW => ⟨(bk.out.1.below hW bk.out.1.lt).cell 0, (bk.out.1.below hW bk.out.1.lt).cell 1⟩)
  obtain ⟨e0, e1⟩ := HCells.out _ (Below.refl _ _)
  by_cases k0 : 20 < L.length
  · have kI : (20 : Int) < L.length := by omega
    go_wp2_with fail
    refine (law10_works _ (HTb.out.next HB0.out)).mono ?_
    rintro e w9 ⟨rfl, hb9⟩
    go_wp2_with fail
    exact HP.out _ (HB0.out.nxt hb9)
  have kH : ((20 : Int) < L.length) = False := by simp; omega
  by_cases k1 : 100 < key.length
  · have kI : (100 : Int) < key.length := by omega
    go_wp2_with fail
    refine (law10_works _ (HTb.out.next HB0.out)).mono ?_
    rintro e w9 ⟨rfl, hb9⟩
    go_wp2_with fail
    exact HP.out _ (HB0.out.nxt hb9)
  have kI : ((100 : Int) < key.length) = False := by simp; omega
  by_cases k2 : 100 < ya.length
  · have kJ : (100 : Int) < ya.length := by omega
    go_wp2_with fail
    refine (law10_works _ (HTb.out.next HB0.out)).mono ?_
    rintro e w9 ⟨rfl, hb9⟩
    go_wp2_with fail
    exact HP.out _ (HB0.out.nxt hb9)
  have kJ : ((100 : Int) < ya.length) = False := by simp; omega
  by_cases k3 : 100 < yb.length
  · have kK : (100 : Int) < yb.length := by omega
    go_wp2_with fail
    refine (law10_works _ (HTb.out.next HB0.out)).mono ?_
    rintro e w9 ⟨rfl, hb9⟩
    go_wp2_with fail
    exact HP.out _ (HB0.out.nxt hb9)
  have kK : ((100 : Int) < yb.length) = False := by simp; omega
  have HLen : Hid (key.length ≤ 100 ∧ ya.length ≤ 100 ∧ yb.length ≤ 100 ∧ L.length ≤ 20) := Lib.hid (by omega)
  clear k0 k1 k2 k3 hk hya hyb bk
  go_wp2_with fail
  clear e0 e1 kH kI kJ kK
  refine nodes_loop w w0 L A0 c0 HA.out HLen.out.2.2.2 HTb.out ⟨key.toArray⟩ pe HB0.out _ ?_ ?_ _ _ _ _ _ _ _ _ _ _ _ _ _ _ _ _ _ _ _ _ _ _ _ _ _ _ _ _ _ _ _ _ _ _ _ _ _ _ _ _ _ _ _ _ _ _ _ _ _ _ _ _ _ _ _ _ _ _ _ _ _ _ _ _ _ _ _ _ _ _ _ _ _ _ _ _ _ _ _ _ _ _ _ _ _ _ _ _ _ _ _ _ _ _ _ _ _ _ _ _ _ _ _ _ _ _ _ _ _ _ _ _ _ _ _ _ _ _ _ _ _ _ _ _ _ _ _ _ _ _ _ _ _ _ _ _ _ _
  rotate_left
  · intro s0 s1 s2 s3 s4 s5 s7 s8 s9 s10 s11 s12 s13 s14 s15 s16 s17 s18 s19 s20 s21 s22 s23 s24 s25 s26 s27 s28 s29 s30 s31 s32 s33 s34 s35 s36 s37 s38 s39 s40 s41 s42 s43 s44 s45 s46 s47 s48 s49 s50 s51 s52 s53 s54 s55 s56 s57 s58 s59 s60 s61 s62 s63 s64 s65 s66 s67 s68 s69 s70 s71 s72 s73 s74 s75 s76 s77 s78 s79 s80 s81 s82 s83 s84 s85 s86 s87 s88 s89 s90 s91 s92 s93 s94 s95 s96 s97 s98 s99 s100 s101 s102 s103 s104 s105 s106 s107 s108 s109 s110 s111 s112 s113 s114 s115 s116 s117 s118 s119 s120 s121 s122 s123 s124 s125 s126 s127 s128 s129 s130 s131 s132 s133 s134 s135 s136 s137 s138 s139 s140 s141 w2 h2
    have HB2 := Lib.hid h2
    clear h2
    go_ret
    exact HP.out _ HB2.out
  intro hsh s2 s3 s4 s6 s7 s8 s9 s10 s11 s12 s13 s14 s15 s16 s17 s18 s19 s20 s21 s22 s23 s24 s25 s26 s27 s28 s29 s30 s31 s32 s33 s34 s35 s36 s37 s38 s39 s40 s41 s42 s43 s44 s45 s46 s47 s48 s49 s50 s51 s52 s53 s54 s55 s56 s57 s58 s59 s60 s61 s62 s63 s64 s65 s66 s67 s68 s69 s70 s71 s72 s73 s74 s75 s76 s77 s78 s79 s80 s81 s82 s83 s84 s85 s86 s87 s88 s89 s90 s91 s92 s93 s94 s95 s96 s97 s98 s99 s100 s101 s102 s103 s104 s105 s106 s107 s108 s109 s110 s111 s112 s113 s114 s115 s116 s117 s118 s119 s120 s121 s122 s123 s124 s125 s126 s127 s128 s129 s130 s131 s132 s133 s134 s135 s136 s137 s138 s139 s140 s141
  have HSh : Hid (∀ x ∈ L, x.1.length ≤ 9223372036854775807 ∧ x.2.length ≤ 9223372036854775807) := Lib.hid (fun x hx => by
    rw [List.all_eq_true] at hsh
    have := hsh x hx
    unfold shortI at this
    simp at this
    omega)
  clear hsh
  obtain ⟨i0, hi0, hz0, hz1, hz2⟩ := info_parts info_item
  have B0' : Hid (Below w.heap.size w (w0.alloc (.cells #[] 26))) := Lib.hid (HB0.out.alloc HB0.out.size _)
  have own0 : (w0.alloc (.cells #[] 26)).ownsRow w.heap.size 26 2 (.slice (some ⟨w0.heap.size, 0, none⟩) 0 0) 0 [] := World.ownsRow_made w0 #[] 0 HB0.out.size (by simp only [maxLen]; omega) rfl
  have R0 : Reads (w0.alloc (.cells #[] 26)) w.heap.size 2 A0 L.length (icells L) := HA.out.below B0'.out
  have hn20 := HLen.out.2.2.2
  go_upto_region 9 with (at_builtin; refine wpList_append_any (w0.alloc (.cells #[] 26)) rfl _ _ 22 rfl w.heap.size 26 i0 _ 2 32 Tryd.underlying22 hi0 hz0 hz1 hz2 rfl (by decide) (.slice (some ⟨w0.heap.size, 0, none⟩) 0 0) 0 [] rfl own0 w.heap.size A0 L.length c0 (icells L) rfl R0 (icells_one _) (by simp only [maxLen]; omega) (by omega) B0'.out.size ?_; intro v4 w4 own4 hg4 ho4; rw [Nat.zero_add, List.nil_append] at own4; obtain ⟨A4, c4, rfl, _, _, _⟩ := own_form own4; have hg4' := Lib.hid (And.intro hg4 own4); clear hg4 ho4 own4)
  have B4 : Hid (Below w0.heap.size w0 w4) := Lib.hid (by
    have hal : Below w0.heap.size w0 (w0.alloc (.cells #[] 26)) := (Below.refl _ _).alloc (Nat.le_refl _) _
    exact hal.grown hg4'.out.1 hal.size (fun k e => by injection e with e; exact Nat.le_of_eq e))
  have O4 := Lib.hid hg4'.out.2
  clear own0 R0 hg4' B0' hi0 hz0 hz1 hz2
  have HO4r := Lib.hid (Reads.of_own O4.out)
  have HLb := Lib.hid (show L.length ≤ 1000 by omega)
  have HRL : Hid (∀ W, Below w0.heap.size w0 W → Reads W W.heap.size 2 A0 L.length (icells L)) := Lib.hid (fun W hW => (HA.out.below (HB0.out.nxt hW)).more (HB0.out.nxt hW).size)
  have HTOf := Lib.hid (trie_Of L HLb.out HSh.out w4 (HTb.out.next (HB0.out.nxt B4.out)) A4 c4 HO4r.out)
  have HROf := Lib.hid (fun W (hW : Below w0.heap.size w0 W) => ref10_Of W L HLb.out HSh.out A0 c0 (HRL.out W hW))
  have HG := Lib.hid (Trie.Good.ofW L .nil Trie.Good.nil)
  clear hn20
  unfold rofW at HROf
  generalize Trie.ofW .nil L = r at *
  obtain ⟨t, cd⟩ := r
  simp only at HTOf HROf HG
  go_wp2_with fail
  refine HTOf.out.mono ?_
  rintro e w5 ⟨v5, rfl, hb5, hk5, hn5⟩
  have HB45 := Lib.hid hb5
  have HB5 := Lib.hid (B4.out.nxt hb5)
  have HK5 := Lib.hid (And.intro hk5 hn5)
  clear hb5 hk5 hn5 HTOf
  go_wp2_with fail
  refine (HROf.out _ HB5.out).mono ?_
  rintro e w6 ⟨A6, n6, c6, rfl, hn6, hc6, own6, hb6⟩
  have HB56 := Lib.hid hb6
  have HB46 := Lib.hid (HB45.out.nxt hb6)
  have HB6 := Lib.hid (HB5.out.nxt hb6)
  have O6 := Lib.hid (And.intro hn6 (And.intro hc6 own6))
  clear hb6 hn6 hc6 own6 HROf
  have R4 := Lib.hid ((HO4r.out.below HB46.out).more HB46.out.size)
  have HSame := Lib.hid (book_SameItems A4 A0 _ _ c4 c0 L L w6 R4.out (HRL.out _ HB6.out) (by have := HLb.out; omega) (by have := HLb.out; omega))
  rw [decide_eq_true rfl] at HSame
  by_cases hcd : cd = 0
  · subst hcd
    have hT5 := HK5.out.1 rfl
    rw [if_pos rfl] at O6
    obtain ⟨hgood, hcnt⟩ := HG.out rfl
    have HGd := Lib.hid (And.intro hgood (show Trie.count t ≤ 20 by have := HLen.out.2.2.2; simp [Trie.count] at hcnt; omega))
    obtain ⟨_, b5, x5, rfl, _⟩ := id hT5
    have HTt : Hid (∀ W, Below w5.heap.size w5 W → TrieP W t (.pointer (some ⟨b5, 0, none⟩))) := Lib.hid (fun W hW => hT5.next hW)
    clear hT5 hgood hcnt HG HK5
    obtain rfl := O6.out.1
    have R6 := Lib.hid (Reads.of_own O6.out.2.2)
    go_wp2_with fail
    refine HSame.out.mono ?_
    rintro e w7 ⟨rfl, hb7⟩
    have HB7 := Lib.hid (HB6.out.nxt hb7)
    have HB57 := Lib.hid (HB56.out.nxt hb7)
    have HB67 := Lib.hid hb7
    clear hb7 HSame
    go_wp2_with fail
    refine (ref10_Spots _ t HGd.out.1 (by have := HGd.out.2; omega) A6 c6 _ (itemsW_len t) ((R6.out.below HB67.out).more HB67.out.size)).mono ?_
    rintro e w8 ⟨A8, c8, n8, rfl, hn8, own8, hb8⟩
    obtain rfl := hn8
    have HB8 := Lib.hid (HB7.out.nxt hb8)
    have HB58 := Lib.hid (HB57.out.nxt hb8)
    have HB68 := Lib.hid (HB67.out.nxt hb8)
    have R8 := Lib.hid (Reads.of_own own8)
    clear hb8 own8
    go_wp2_with fail
    refine (trie_Nodes _ t _ (HTt.out _ HB58.out) (by have := HGd.out.2; omega)).mono ?_
    rintro e w9 ⟨A9, n9, c9, rfl, hn9, own9, hb9⟩
    obtain rfl := hn9
    have HB9 := Lib.hid (HB8.out.nxt hb9)
    have HB59 := Lib.hid (HB58.out.nxt hb9)
    have HB69 := Lib.hid (HB68.out.nxt hb9)
    have HB89 := Lib.hid hb9
    have O9 := Lib.hid own9
    have R9 := Lib.hid (Reads.of_own own9)
    clear hb9 own9
    have HD := Lib.hid (spots_at HGd.out.1 (by have := HGd.out.2; omega))
    have HTl := Lib.hid (fun m => Trie.goT_short HGd.out.1.wf (show Trie.count t ≤ 20000 by have := HGd.out.2; omega) m [])
    have HFt := Lib.hid (told_filter (trailW (Nib.of key)) (trail_closed _) t)
    have HFc := Lib.hid (told_filter (coverW (Nib.of ya) (Nib.of yb) yb) (cover_closed _ _ _) t)
    have HDl : Hid (∀ W, Below w8.heap.size w8 W → Reads W W.heap.size 22 A8 (Trie.goT allW t []).length (spv (Trie.goT allW t []))) := Lib.hid (fun W hW => (R8.out.below hW).more hW.size)
    have HTx : Hid (∀ W, Below w9.heap.size w9 W → Calls Tryd.prog 19 #[.slice A8 (Trie.goT allW t []).length c8] W (TextsEnd W (toldW allW t))) := Lib.hid (fun W hW => ref10_Texts W _ HD.out.1 A8 c8 (HDl.out W (HB89.out.nxt hW)))
    have HTr : Hid (∀ W, Below w9.heap.size w9 W → Calls Tryd.prog 20 #[.pointer (some ⟨b5, 0, none⟩), .string ⟨key.toArray⟩] W (TextsEnd W (toldW (trailW (Nib.of key)) t))) := Lib.hid (fun W hW => trie_Trail W t _ (HTt.out W (HB59.out.nxt hW)) (by have := HGd.out.2; omega) key (by have := HLen.out.1; omega))
    have HRTr : Hid (∀ W, Below w9.heap.size w9 W → Calls Tryd.prog 21 #[.slice A8 (Trie.goT allW t []).length c8, .string ⟨key.toArray⟩] W (TextsEnd W (toldW (trailW (Nib.of key)) t))) := Lib.hid (fun W hW => by rw [HFt.out]; exact ref10_Trail W _ HD.out.1 HD.out.2 key (by have := HLen.out.1; omega) A8 c8 (HDl.out W (HB89.out.nxt hW)))
    have HCv : Hid (∀ W, Below w9.heap.size w9 W → Calls Tryd.prog 22 #[.pointer (some ⟨b5, 0, none⟩), .string ⟨ya.toArray⟩, .string ⟨yb.toArray⟩] W (TextsEnd W (toldW (coverW (Nib.of ya) (Nib.of yb) yb) t))) := Lib.hid (fun W hW => trie_Cover W t _ (HTt.out W (HB59.out.nxt hW)) (by have := HGd.out.2; omega) ya yb (by have := HLen.out.2.1; omega) (by have := HLen.out.2.2.1; omega))
    have HRCv : Hid (∀ W, Below w9.heap.size w9 W → Calls Tryd.prog 23 #[.slice A8 (Trie.goT allW t []).length c8, .string ⟨ya.toArray⟩, .string ⟨yb.toArray⟩] W (TextsEnd W (toldW (coverW (Nib.of ya) (Nib.of yb) yb) t))) := Lib.hid (fun W hW => by rw [HFc.out]; exact ref10_Cover W _ HD.out.1 HD.out.2 ya yb (by have := HLen.out.2.1; omega) (by have := HLen.out.2.2.1; omega) A8 c8 (HDl.out W (HB89.out.nxt hW)))
    have tl : ∀ m, (toldW m t).length ≤ 100000 := fun m => by rw [toldW, textsD, List.length_map]; exact HTl.out m
    have HTl1 := Lib.hid (tl allW)
    have HTl2 := Lib.hid (tl (trailW (Nib.of key)))
    have HTl3 := Lib.hid (tl (coverW (Nib.of ya) (Nib.of yb) yb))
    clear tl HFt HFc HTl
    generalize toldW allW t = la at *
    generalize toldW (trailW (Nib.of key)) t = lt at *
    generalize toldW (coverW (Nib.of ya) (Nib.of yb) yb) t = lc at *
    generalize Trie.goT allW t [] = D at *
    obtain ⟨e0, e1⟩ := HCells.out _ HB9.out
    go_upto_region 17 with fail
    go_region_held3 (fun w' => w'.cell? ⟨pe, 0, none⟩ = some (.string ⟨ya.toArray⟩) ∧ w'.cell? ⟨pe, 1, none⟩ = some (.string ⟨yb.toArray⟩)) (first | go_keep | (constructor <;> assumption)) (first
      | (go_at_call 19; (with_reducible refine (HTx.out _ ?_).mono ?_); (first | exact (Below.refl _ _) | exact ((Below.refl _ _)).drew); rintro e w10 ⟨A10, n10, c10, rfl, hn10, own10, hb⟩; have C10 : Below w9.heap.size w9 w10 := (by first | exact hb | exact hb.start); obtain rfl := hn10; have HS1 := Lib.hid (fun W (hW : Below w10.heap.size w10 W) => same_told c9 c10 (((R9.out.below C10).more C10.size).below hW |>.more hW.size) ((Reads.of_own own10).below hW |>.more hW.size) HTl1.out); clear own10; clear hb; obtain ⟨e0, e1⟩ := HCells.out _ (HB9.out.nxt C10))
      | (go_at_call 18; (with_reducible refine (HS1.out _ ?_).mono ?_); (first | exact (Below.refl _ _) | exact ((Below.refl _ _)).drew); rintro e w11 ⟨rfl, hb⟩; have C11 : Below w9.heap.size w9 w11 := (by first | exact C10.nxt hb | exact C10.nxt hb.start); clear hb; obtain ⟨e0, e1⟩ := HCells.out _ (HB9.out.nxt C11))
      | (go_at_call 20; (with_reducible refine (HTr.out _ ?_).mono ?_); (first | exact C11 | exact (C11).drew); rintro e w12 ⟨A12, n12, c12, rfl, hn12, own12, hb⟩; have C12 : Below w9.heap.size w9 w12 := (by first | exact C11.nxt hb | exact C11.nxt hb.start); obtain rfl := hn12; have R12 := Lib.hid (Reads.of_own own12); clear own12; clear hb; obtain ⟨e0, e1⟩ := HCells.out _ (HB9.out.nxt C12))
      | (go_at_call 21; (with_reducible refine (HRTr.out _ ?_).mono ?_); (first | exact C12 | exact (C12).drew); rintro e w13 ⟨A13, n13, c13, rfl, hn13, own13, hb⟩; have C13 : Below w9.heap.size w9 w13 := (by first | exact C12.nxt hb | exact C12.nxt hb.start); obtain rfl := hn13; have HS2 := Lib.hid (fun W (hW : Below w13.heap.size w13 W) => same_told c12 c13 (by have h2 : Below w12.heap.size w12 w13 := (by first | exact hb | exact hb.start); exact ((R12.out.below h2).more h2.size).below hW |>.more hW.size) ((Reads.of_own own13).below hW |>.more hW.size) HTl2.out); clear own13; clear hb; obtain ⟨e0, e1⟩ := HCells.out _ (HB9.out.nxt C13))
      | (go_at_call 18; (with_reducible refine (HS2.out _ ?_).mono ?_); (first | exact (Below.refl _ _) | exact ((Below.refl _ _)).drew); rintro e w14 ⟨rfl, hb⟩; have C14 : Below w9.heap.size w9 w14 := (by first | exact C13.nxt hb | exact C13.nxt hb.start); clear hb; obtain ⟨e0, e1⟩ := HCells.out _ (HB9.out.nxt C14))
      | (go_at_call 22; (with_reducible refine (HCv.out _ ?_).mono ?_); (first | exact C14 | exact (C14).drew); rintro e w15 ⟨A15, n15, c15, rfl, hn15, own15, hb⟩; have C15 : Below w9.heap.size w9 w15 := (by first | exact C14.nxt hb | exact C14.nxt hb.start); obtain rfl := hn15; have R15 := Lib.hid (Reads.of_own own15); clear own15; clear hb; obtain ⟨e0, e1⟩ := HCells.out _ (HB9.out.nxt C15))
      | (go_at_call 23; (with_reducible refine (HRCv.out _ ?_).mono ?_); (first | exact C15 | exact (C15).drew); rintro e w16 ⟨A16, n16, c16, rfl, hn16, own16, hb⟩; have C16 : Below w9.heap.size w9 w16 := (by first | exact C15.nxt hb | exact C15.nxt hb.start); obtain rfl := hn16; have HS3 := Lib.hid (fun W (hW : Below w16.heap.size w16 W) => same_told c15 c16 (by have h2 : Below w15.heap.size w15 w16 := (by first | exact hb | exact hb.start); exact ((R15.out.below h2).more h2.size).below hW |>.more hW.size) ((Reads.of_own own16).below hW |>.more hW.size) HTl3.out); clear own16; clear hb; obtain ⟨e0, e1⟩ := HCells.out _ (HB9.out.nxt C16))
      | (go_at_call 18; (with_reducible refine (HS3.out _ ?_).mono ?_); (first | exact (Below.refl _ _) | exact ((Below.refl _ _)).drew); rintro e w17 ⟨rfl, hb⟩; have C17 : Below w9.heap.size w9 w17 := (by first | exact C16.nxt hb | exact C16.nxt hb.start); clear hb; obtain ⟨e0, e1⟩ := HCells.out _ (HB9.out.nxt C17)))
    have HD18 := Lib.hid (HB89.out.nxt C17)
    have O17 := Lib.hid (own_below O9.out C17)
    clear C10 C11 C12 C13 C14 C15 C16 C17 e0 e1 HTx HTr HRTr HCv HRCv HS1 HS2 HS3 HTl2 HTl3
    go_wp2_with fail
    refine (book_SpoilTexts _ w8.heap.size A9 _ c9 _ O17.out HD18.out.size (by have := HTl1.out; omega)).mono ?_
    rintro e w18 ⟨rfl, hb18⟩
    have D18 : Hid (Below w8.heap.size w8 w18) := Lib.hid (HD18.out.trans hb18)
    have HB18 := Lib.hid (HB8.out.nxt D18.out)
    have HB518 := Lib.hid (HB58.out.nxt D18.out)
    have R618 := Lib.hid ((R6.out.below (HB68.out.nxt D18.out)).more (HB68.out.nxt D18.out).size)
    clear hb18
    go_wp2_with fail
    refine (trie_Root _ t _ (HTt.out _ HB518.out)).mono ?_
    rintro e w19 ⟨rfl, rfl⟩
    have HRo := Lib.hid (ref10_Root _ t HGd.out.1 (by have := HGd.out.2; omega) A6 c6 R618.out)
    have hss : (Trie.sumT t == Trie.sumT t) = true := by simp
    generalize Trie.sumT t = sm at *
    go_wp2_with fail
    refine HRo.out.mono ?_
    rintro e w20 ⟨rfl, hb20⟩
    have HB20 := Lib.hid (HB18.out.nxt hb20)
    have HB520 := Lib.hid (HB518.out.nxt hb20)
    have R620 := Lib.hid ((R618.out.below hb20).more hb20.size)
    clear hb20
    go_wp2_with fail
    refine (trie_Items _ t _ (HTt.out _ HB520.out) (by have := HGd.out.2; omega)).mono ?_
    rintro e w21 ⟨A21, n21, c21, rfl, hn21, own21, hb21⟩
    obtain rfl := hn21
    have HB21 := Lib.hid (HB20.out.nxt hb21)
    have R21 := Lib.hid (Reads.of_own own21)
    have R621 := Lib.hid ((R620.out.below hb21).more hb21.size)
    have HIlen : Hid ((Trie.itemsW t).length ≤ 1048576) := Lib.hid (by rw [itemsW_len]; have := HGd.out.2; omega)
    clear hb21 own21
    go_wp2_with fail
    refine (book_SameItems A21 A6 _ _ c21 c6 _ _ _ R21.out R621.out HIlen.out HIlen.out).mono ?_
    rw [decide_eq_true rfl]
    rintro e w22 ⟨rfl, hb22⟩
    have HB22 := Lib.hid (HB21.out.nxt hb22)
    clear hb22
    go_wp2_with fail
    refine (law10_works _ (HTb.out.next (HB0.out.nxt HB22.out))).mono ?_
    rintro e w23 ⟨rfl, hb23⟩
    go_wp2_with fail
    exact HP.out _ (HB0.out.nxt (HB22.out.nxt hb23))
  · have hv := HK5.out.2 hcd
    subst hv
    have hcI : ((cd : Int) != 0) = true := by simp; exact hcd
    clear HK5 HG O6
    go_wp2_with fail
    refine HSame.out.mono ?_
    rintro e w7 ⟨rfl, hb7⟩
    have HB7 := Lib.hid (HB6.out.nxt hb7)
    clear hb7
    go_wp2_with fail
    refine (law10_works _ (HTb.out.next (HB0.out.nxt HB7.out))).mono ?_
    rintro e w8 ⟨rfl, hb8⟩
    go_wp2_with fail
    exact HP.out _ (HB0.out.nxt (HB7.out.nxt hb8))
end Go.Proofs.YtefcmigbdfeaiaaDoor
