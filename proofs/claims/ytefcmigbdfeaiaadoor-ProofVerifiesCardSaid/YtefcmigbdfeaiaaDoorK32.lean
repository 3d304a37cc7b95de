import Derived.Test.YtefcmigbdfeaiaaDoorK31
import Derived.Test.YtefcmigbdfeaiaaDoorK22
import Derived.Great.BuildSlice
set_option linter.unusedSimpArgs false
set_option linter.unusedVariables false
namespace Go.Proofs.YtefcmigbdfeaiaaDoor
set_option linter.unusedVariables false
open Go.RowKit Go.Instr
attribute [local go_sem] ba_get ByteArray.mk_append_mk
def spv (D : List (List UInt8 × Trie.T)) : List Value :=
  D.flatMap fun x => .string ⟨x.1.toArray⟩ :: .string ⟨(Trie.textT x.2).toArray⟩ :: .string ⟨(Trie.sumT x.2).toArray⟩ :: nodeV (Trie.kindT x.2) (Trie.pathT x.2) (Trie.valT x.2) (Trie.sumsT x.2)
theorem spv_length : ∀ D : List (List UInt8 × Trie.T), (spv D).length = D.length * 22
  | [] => rfl
  | x :: D => by
    have := spv_length D
    have h2 := nodeV_size (k := Trie.kindT x.2) (p := Trie.pathT x.2) (v := Trie.valT x.2) (Trie.sumsT_length x.2)
    unfold spv at *
    rw [List.flatMap_cons, List.length_append, this]
    simp only [List.length_cons, h2]
    omega
theorem spv_one (D : List (List UInt8 × Trie.T)) : ∀ u ∈ spv D, u.oneCell' = true := by
  intro u hu
  unfold spv at hu
  rw [List.mem_flatMap] at hu
  obtain ⟨x, _, hu⟩ := hu
  simp only [nodeV, List.mem_cons] at hu
  rcases hu with rfl | rfl | rfl | rfl | rfl | rfl | hu
  · rfl
  · rfl
  · rfl
  · rfl
  · rfl
  · rfl
  · exact strv_one _ _ hu
def SpotsEnd (w : World) (D : List (List UInt8 × Trie.T)) (e : Ending) (w' : World) : Prop :=
  ∃ A c n, e = .returned (.slice A n c) ∧ n = D.length ∧ w'.ownsRow w.heap.size 93 22 (.slice A n c) n (spv D) ∧ Below w.heap.size w w'
theorem info_spot : (Tryd.prog.info? 93).map (fun i => (i.zero, i.size, i.bytes)) = some (some (.agg #[.string ⟨#[]⟩, .string ⟨#[]⟩, .string ⟨#[]⟩, .int .i64 0, .string ⟨#[]⟩, .string ⟨#[]⟩, .string ⟨#[]⟩, .string ⟨#[]⟩, .string ⟨#[]⟩, .string ⟨#[]⟩, .string ⟨#[]⟩, .string ⟨#[]⟩, .string ⟨#[]⟩, .string ⟨#[]⟩, .string ⟨#[]⟩, .string ⟨#[]⟩, .string ⟨#[]⟩, .string ⟨#[]⟩, .string ⟨#[]⟩, .string ⟨#[]⟩, .string ⟨#[]⟩, .string ⟨#[]⟩]), 22, 344) := by kernel_rfl
theorem built_spot0 (a b c : ByteArray) (n0 n1 n2 n3 n4 n5 n6 n7 n8 n9 n10 n11 n12 n13 n14 n15 n16 n17 n18 : Value) : Tryd.prog.built 93 [(0, .string a), (1, .string b), (2, .string c), (3, .agg #[n0, n1, n2, n3, n4, n5, n6, n7, n8, n9, n10, n11, n12, n13, n14, n15, n16, n17, n18])] = some #[.string a, .string b, .string c, n0, n1, n2, n3, n4, n5, n6, n7, n8, n9, n10, n11, n12, n13, n14, n15, n16, n17, n18] := by kernel_rfl
theorem built_spot (a b c : ByteArray) (NV : List Value) (h : NV.length = 19) : Tryd.prog.built 93 [(0, .string a), (1, .string b), (2, .string c), (3, .agg NV.toArray)] = some (.string a :: .string b :: .string c :: NV).toArray := by
  match NV, h with
  | [n0, n1, n2, n3, n4, n5, n6, n7, n8, n9, n10, n11, n12, n13, n14, n15, n16, n17, n18], _ => exact built_spot0 a b c n0 n1 n2 n3 n4 n5 n6 n7 n8 n9 n10 n11 n12 n13 n14 n15 n16 n17 n18
theorem yieldsIf_build {P : Program} {ops : Array Oper} {S : World → Prop} {op : Oper} {a : Act} (hw : Region.wanted op (yielded ops a.tmps) = true) (t : TypeId) (parts : Array (Nat × Operand)) (ho : op.op = .build t parts)
    (cells : Array Value) (hb : P.built t (parts.map fun (i, x) => (i, a.eval x)).toList = some cells) : YieldsIf P ops S op (.agg cells) a :=
  .inl ⟨hw, fun w _ => by unfold execOp; simp only [ho, Sem.run_bind, run_build w t _ cells hb, Result.andThen_ok]; rfl⟩
theorem list22 {α : Type} : ∀ l : List α, l.length = 22 → ∃ m0 m1 m2 m3 m4 m5 m6 m7 m8 m9 m10 m11 m12 m13 m14 m15 m16 m17 m18 m19 m20 m21, l = [m0, m1, m2, m3, m4, m5, m6, m7, m8, m9, m10, m11, m12, m13, m14, m15, m16, m17, m18, m19, m20, m21]
  | [m0, m1, m2, m3, m4, m5, m6, m7, m8, m9, m10, m11, m12, m13, m14, m15, m16, m17, m18, m19, m20, m21], _ => ⟨m0, m1, m2, m3, m4, m5, m6, m7, m8, m9, m10, m11, m12, m13, m14, m15, m16, m17, m18, m19, m20, m21, rfl⟩
theorem step_spot {ops : Array Oper} {o : Oper} {a : Act} {w : World} {K : Act → World → Prop} {Q : Exit → Act → World → Prop} {E : Prop} (x : Operand) (C : List Value) (hC : C.length = 22) (hgd : o.guard = none) (ho : o.op = .buildSlice 34 1 #[(0, x)]) (hx : a.eval x = .agg C.toArray)
    (h : K (a.put o.dst (.slice (some ⟨w.heap.size, 0, none⟩) 1 1)) (w.alloc (.cells C.toArray 93))) :
    if Region.wanted o (yielded ops a.tmps) = true then Oper.wp Tryd.prog o a w K Q else E := by
  have hw : Region.wanted o (yielded ops a.tmps) = true := by simp [Region.wanted, hgd]
  rw [if_pos hw]
  obtain ⟨i, hi, hz, hsize, hby⟩ := info_parts info_spot
  refine wp_buildSlice 34 93 1 #[(0, x)] ho C.toArray i _ Tryd.underlying34 hi hz (by rw [hsize]; decide) (by rw [hsize]; decide) ?_ h
  rw [hsize]
  obtain ⟨m0, m1, m2, m3, m4, m5, m6, m7, m8, m9, m10, m11, m12, m13, m14, m15, m16, m17, m18, m19, m20, m21, rfl⟩ := list22 C hC
  simp only [List.map_toArray, List.map_cons, List.map_nil, hx]
  kernel_rfl
theorem Live.range1 {w W : World} {L : List (Nat × Nat × Array Value)} {t : Nat} {cs : List Value} (h : Live w W L) (g : Nat) (i : Nat) (hi : L[i]? = some (g, t, cs.toArray)) : W.rangeAt g 0 cs := fun j u hu => by
  rw [Nat.zero_add]; exact h.cell i j hi (by simpa using hu)
set_option maxRecDepth 100000 in
set_option maxHeartbeats 4000000 in
theorem ref10_spot (w : World) (pl : List UInt8) (t : Trie.T) (hn : t ≠ .nil) (hw : Trie.wf t) (hs : Trie.small t) (D : List (List UInt8 × Trie.T)) (hD : D.length ≤ 100000) (A : Option Addr) (c : Nat) (HR : Reads w w.heap.size 22 A D.length (spv D)) :
    Calls Tryd.prog 81 #[.string ⟨pl.toArray⟩, .agg (nodeV (Trie.kindT t) (Trie.pathT t) (Trie.valT t) (Trie.sumsT t)).toArray, .slice A D.length c] w (SpotsEnd w ((pl, t) :: D)) := by
  have HP : Hid (∀ A c n w', n = D.length + 1 → w'.ownsRow w.heap.size 93 22 (.slice A n c) n (spv ((pl, t) :: D)) → Below w.heap.size w w' → SpotsEnd w ((pl, t) :: D) (.returned (.slice A n c)) w') := Lib.hid (fun A c n w' g1 g2 g3 => ⟨A, c, n, rfl, g1, g2, g3⟩)
  generalize SpotsEnd w ((pl, t) :: D) = P at HP ⊢
  have hf := Trie.fineT hn hw hs
  have HS : Hid (spv ((pl, t) :: D) = (.string ⟨pl.toArray⟩ :: .string ⟨(Trie.textT t).toArray⟩ :: .string ⟨(Trie.sumT t).toArray⟩ :: nodeV (Trie.kindT t) (Trie.pathT t) (Trie.valT t) (Trie.sumsT t)) ++ spv D) := Lib.hid rfl
  have HWr : Hid (∀ W, Calls Tryd.prog 108 #[.agg (nodeV (Trie.kindT t) (Trie.pathT t) (Trie.valT t) (Trie.sumsT t)).toArray] W (Ret W (.string ⟨(Trie.textT t).toArray⟩))) := Lib.hid (fun W => ref08_Written W _ _ _ _ (Trie.sumsT_length t) hf)
  have HDg : Hid (∀ W, Calls Tryd.prog 109 #[.agg (nodeV (Trie.kindT t) (Trie.pathT t) (Trie.valT t) (Trie.sumsT t)).toArray] W (Ret W (.string ⟨(Trie.sumT t).toArray⟩))) := Lib.hid (fun W => by rw [Trie.sumT_eq hn]; exact ref08_Digest W _ _ _ _ (Trie.sumsT_length t) hf)
  have hone := spv_one ((pl, t) :: D)
  rw [HS.out] at hone
  have Hone := Lib.hid (fun u (hu : u ∈ (.string ⟨pl.toArray⟩ :: .string ⟨(Trie.textT t).toArray⟩ :: .string ⟨(Trie.sumT t).toArray⟩ :: nodeV (Trie.kindT t) (Trie.pathT t) (Trie.valT t) (Trie.sumsT t))) => hone u (List.mem_append_left _ hu))
  have HoneD := Lib.hid (spv_one D)
  have Hsz := Lib.hid (nodeV_size (k := Trie.kindT t) (p := Trie.pathT t) (v := Trie.valT t) (Trie.sumsT_length t))
  clear hf hone
  generalize Trie.textT t = T at *
  generalize Trie.sumT t = S at *
  generalize hNV : nodeV (Trie.kindT t) (Trie.pathT t) (Trie.valT t) (Trie.sumsT t) = NV at *
  clear hNV hw hs
  have HRd := Lib.hid HR
  have HDl := Lib.hid hD
  clear HR hD
  go_enter Tryd.func81, Tryd.ntmps81
  go_upto_region 2 with fail
  have SZ : (Tryd.prog.info? 91).map (·.size) = some NV.length := by rw [Hsz.out]; exact info_node
  have F := Live.ha (Lib.hid (Live.start w)) NV.toArray 91
  generalize w.alloc (.cells NV.toArray 91) = W0 at F ⊢
  have RA : W0.rangeAt w.heap.size 0 NV := fun j u hu => by rw [Nat.zero_add]; exact F.out.cell 0 j rfl (by simpa using hu)
  have UN := Tryd.underlying91
  refine wp_region_held_drew (S := fun w' => w'.rangeAt w.heap.size 0 NV) (by kernel_rfl) RA (fun hHeld => ?_)
  refine wpAnyH_take (i := 0) (oi := ⟨some 8, _, _, _, _, _⟩) (v := ?_) rfl (by kernel_rfl) (by kernel_rfl) (by kernel_rfl) (fun _ _ _ h => h) (Or.inl ⟨by rfl, ?_⟩) (by assumption) ?_
  rotate_left
  · intro w hSw
    try dsimp only at hSw
    go_simp
    first | done | with_reducible rfl
  try simp only [Act.put, List.setIfInBounds_toArray, List.set_cons_zero, List.set_cons_succ]
  refine wpAnyH_take (i := 1) (oi := ⟨some 9, _, _, _, _, _⟩) (v := ?_) rfl (by kernel_rfl) (by kernel_rfl) (by kernel_rfl) (fun _ _ _ h => h) (Or.inl ⟨by rfl, ?_⟩) (by assumption) ?_
  rotate_left
  · intro w hSw
    try dsimp only at hSw
    go_simp
    first | done | with_reducible rfl
  try simp only [Act.put, List.setIfInBounds_toArray, List.set_cons_zero, List.set_cons_succ]
  refine' wpAnyH_take (i := 2) (oi := ⟨some 10, _, _, _, _, _⟩) (v := _) rfl (by kernel_rfl) (by kernel_rfl) (by kernel_rfl) (fun _ _ _ h => h) (yieldsIf_load_mid (by rfl) _ _ rfl w.heap.size 0 rfl NV _ (fun w h => h) UN rfl SZ) (by assumption) ?_
  try simp only [Act.put, List.setIfInBounds_toArray, List.set_cons_zero, List.set_cons_succ]
  refine' wpAnyH_take (i := 4) (oi := ⟨some 12, _, _, _, _, _⟩) (v := _) rfl (by kernel_rfl) (by kernel_rfl) (by kernel_rfl) (fun _ _ _ h => h) (yieldsIf_load_mid (by rfl) _ _ rfl w.heap.size 0 rfl NV _ (fun w h => h) UN rfl SZ) (by assumption) ?_
  try simp only [Act.put, List.setIfInBounds_toArray, List.set_cons_zero, List.set_cons_succ]
  refine' wpAnyH_take (i := 6) (oi := ⟨some 14, _, _, _, _, _⟩) (v := _) rfl (by kernel_rfl) (by kernel_rfl) (by kernel_rfl) (fun _ _ _ h => h) (yieldsIf_load_mid (by rfl) _ _ rfl w.heap.size 0 rfl NV _ (fun w h => h) UN rfl SZ) (by assumption) ?_
  try simp only [Act.put, List.setIfInBounds_toArray, List.set_cons_zero, List.set_cons_succ]
  refine wpAnyH_ready (rs := [3]) (by kernel_rfl) (by simp) ?_
  refine AllReadyH.cons rfl (fun K hK => ?_) AllReadyH.nil
  go_simp
  refine (HWr.out _).mono ?_
  rintro e W9 ⟨rfl, hb⟩
  (first | have F := Live.hb F hb | have F := Live.hbd F hb); clear hb
  have RA : W9.rangeAt w.heap.size 0 NV := fun j u hu => by rw [Nat.zero_add]; exact F.out.cell 0 j rfl (by simpa using hu)
  go_simp
  refine hK.out _ _ RA (fun hHeld => ?_)
  clear hK K
  refine wpAnyH_ready (rs := [5]) (by kernel_rfl) (by simp) ?_
  refine AllReadyH.cons rfl (fun K hK => ?_) AllReadyH.nil
  go_simp
  refine (HDg.out _).mono ?_
  rintro e W9 ⟨rfl, hb⟩
  (first | have F := Live.hb F hb | have F := Live.hbd F hb); clear hb
  have RA : W9.rangeAt w.heap.size 0 NV := fun j u hu => by rw [Nat.zero_add]; exact F.out.cell 0 j rfl (by simpa using hu)
  go_simp
  refine hK.out _ _ RA (fun hHeld => ?_)
  clear hK K
  have HBt := built_spot ⟨pl.toArray⟩ ⟨T.toArray⟩ ⟨S.toArray⟩ NV Hsz.out
  refine wpAnyH_take (i := 7) (oi := ⟨some 15, _, _, _, _, _⟩) (v := .agg (.string ⟨pl.toArray⟩ :: .string ⟨T.toArray⟩ :: .string ⟨S.toArray⟩ :: NV).toArray) rfl (by kernel_rfl) (by kernel_rfl) (by kernel_rfl) (fun _ _ _ h => h) (yieldsIf_build (by rfl) _ _ rfl _ (by simp only [List.map_toArray, List.map_cons, List.map_nil]; exact HBt)) (by assumption) ?_
  try simp only [Act.put, List.setIfInBounds_toArray, List.set_cons_zero, List.set_cons_succ]
  refine wpAnyH_ready (rs := [8]) (by kernel_rfl) (by simp) ?_
  refine AllReadyH.cons rfl (fun K hK => ?_) AllReadyH.nil
  refine step_spot _ (.string ⟨pl.toArray⟩ :: .string ⟨T.toArray⟩ :: .string ⟨S.toArray⟩ :: NV) (by simp [Hsz.out]) rfl rfl rfl ?_
  refine hK.out _ _ ?_ (fun hHeld => ?_)
  · exact (F.out.alloc _ _).range1 w.heap.size 1 rfl
  clear hK K RA
  have hcl : (.string ⟨pl.toArray⟩ :: .string ⟨T.toArray⟩ :: .string ⟨S.toArray⟩ :: NV).length = 1 * 22 := by simp [Hsz.out]
  obtain ⟨i0, hi0, hz0, hz1, hz2⟩ := info_parts info_spot
  refine wpAnyH_ready (rs := [9]) (by kernel_rfl) (by simp) ?_
  refine AllReadyH.cons rfl (fun K hK => ?_) AllReadyH.nil
  refine step_append_row W9 93 (.string ⟨pl.toArray⟩ :: .string ⟨T.toArray⟩ :: .string ⟨S.toArray⟩ :: NV) rfl _ _ 34 rfl w.heap.size 22 344 _ info_spot Tryd.underlying34 rfl (by decide) (.slice none 0 0) 0 [] rfl (World.ownsRow_nil _ _ _ _) 1 1 rfl hcl Hone.out (by simp only [maxLen]; omega) (by omega) w.heap.size w F.out.b (Nat.le_refl _) F.out.b.size ?_
  intro v3 w3 own3 hb3 hg3 _ _
  have F := Live.hp F (World.ownsRow_nil W9 w.heap.size 93 22) (Nat.le_refl _) (by simp) hg3
  refine hK.out _ _ (F.out.range1 w.heap.size 0 rfl) (fun hHeld => ?_)
  clear hK K
  rw [Nat.zero_add, List.nil_append] at own3
  obtain ⟨A3, c3, rfl, _, _, _⟩ := own_form own3
  try simp only [Act.put, List.setIfInBounds_toArray, List.set_cons_zero, List.set_cons_succ]
  refine wpAnyH_take (i := 10) (oi := ⟨some 7, _, _, _, _, _⟩) (v := ?_) rfl (by kernel_rfl) (by kernel_rfl) (by kernel_rfl) (fun _ _ _ h => h) (Or.inl ⟨by rfl, ?_⟩) (by assumption) ?_
  rotate_left
  · intro w hSw
    try dsimp only at hSw
    go_simp
    first | done | with_reducible rfl
  try simp only [Act.put, List.setIfInBounds_toArray, List.set_cons_zero, List.set_cons_succ]
  refine wpAnyH_done (by kernel_rfl) ?_ _
  have R3 : Reads w3 w.heap.size 22 A D.length (spv D) := HRd.out.below F.out.b
  have hDl := HDl.out
  clear hHeld
  go_wp2_with (at_builtin; refine wpList_append_any w3 rfl _ _ 34 rfl w.heap.size 93 i0 _ 22 344 Tryd.underlying34 hi0 hz0 hz1 hz2 rfl (by decide) (.slice A3 1 c3) 1 (.string ⟨pl.toArray⟩ :: .string ⟨T.toArray⟩ :: .string ⟨S.toArray⟩ :: NV) rfl own3 w.heap.size A D.length c (spv D) rfl R3 HoneD.out (by simp only [maxLen]; omega) (by omega) F.out.b.size ?_; intro v4 w4 own4 hg4 _; obtain ⟨A4, c4, rfl, _, _, _⟩ := own_form own4; have F4 := Live.hp F own3 (Nat.le_refl _) (by simp) hg4; have O4 := Lib.hid own4; clear own4 hg4 own3 R3)
  refine HP.out A4 c4 (1 + D.length) _ (by omega) ?_ F4.out.b
  rw [HS.out]
  exact O4.out
end Go.Proofs.YtefcmigbdfeaiaaDoor
