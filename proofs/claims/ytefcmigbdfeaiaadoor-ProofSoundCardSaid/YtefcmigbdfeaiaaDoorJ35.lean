import Derived.Test.YtefcmigbdfeaiaaDoorJ30
import Derived.Test.YtefcmigbdfeaiaaDoorJ34
import Derived.Test.YtefcmigbdfeaiaaDoorJ25
import Derived.Great.BuildSlice
import Derived.Test.YtefcmigbdfeaiaaDoorJ31
set_option linter.unusedSimpArgs false
set_option linter.unusedVariables false
/- The document's layer 8 (node): Written, Digest. No conditions. -/
namespace Go.Proofs.YtefcmigbdfeaiaaDoor
set_option linter.unusedVariables false
open Go.RowKit Go.Instr
attribute [local go_sem] ba_get ByteArray.mk_append_mk
set_option maxRecDepth 100000 in
set_option maxHeartbeats 4000000 in
theorem ref08_written1 (w : World) (p v : List UInt8) (K : List (List UInt8)) (hK : K.length = 16) (hf : fineN 1 p v K = true) :
    Calls Tryd.prog 108 #[.agg (nodeV 1 p v K).toArray] w (Ret w (.string ⟨(nodeText 1 p v K).toArray⟩)) := by
  obtain ⟨_, hfit, hp, hv, hs⟩ := fineN_parts hf
  have HP : Hid (∀ s w', nodeText 1 p v K = s → Below w.heap.size w w' → Ret w (.string ⟨(nodeText 1 p v K).toArray⟩) (Ending.returned (.string ⟨s.toArray⟩)) w') := Lib.hid (fun b w' h h2 => by rw [h]; exact ⟨rfl, h2⟩)
  generalize Ret w (.string ⟨(nodeText 1 p v K).toArray⟩) = P at HP ⊢
  rw [show nodeText 1 p v K = 1 :: (textW (Nib.packed p true) ++ textW v) from rfl] at HP
  have hpl := Nib.packed_length p true
  have HPk := Lib.hid (fun W => refnib_Pack p true W (by omega))
  rw [show Nib.pack p true = (Nib.packed p true, 0) by unfold Nib.pack; rw [hfit]; rfl] at HPk
  have HT1 := Lib.hid (fun W => ref02_Text (Nib.packed p true) (by omega) W)
  have HT2 := Lib.hid (fun W => ref02_Text v (by omega) W)
  have l1 := textW_len (Nib.packed p true) (by omega)
  have l2 := textW_len v (by omega)
  have l1 : (textW (Nib.packed p true)).length ≤ 1000 := by omega
  have l2 : (textW v).length ≤ 1000 := by omega
  clear hf hs hpl hfit
  generalize textW (Nib.packed p true) = X at *
  generalize textW v = Y at *
  generalize Nib.packed p true = pk at *
  have m1 : 1 + X.length ≤ 9223372036854775807 := by omega
  have m2 : 1 + X.length + Y.length ≤ 9223372036854775807 := by omega
  have m3 : X.length + 1 + Y.length ≤ 9223372036854775807 := by omega
  go_enter Tryd.func108, Tryd.ntmps108
  go_upto_region 1 with fail
  have F := Live.ha (Lib.hid (Live.start w)) (nodeV 1 p v K).toArray 91
  generalize w.alloc (.cells (nodeV 1 p v K).toArray 91) = W0 at F ⊢
  obtain ⟨q0, q1, q2, RK, _⟩ := NodeAt.of (C := []) (by rw [List.append_nil]; exact F.out.blk 0 rfl)
  have cv := conv1 W0 1 (by omega) (by omega)
  go_upto_region 2 with fail
  have F := Live.ha F #[.int .u8 1] 5
  clear cv q0 q1 q2 RK
  generalize W0.alloc (.cells #[.int .u8 1] 5) = W1 at F ⊢
  replace F : Hid (Live w W1 [(w.heap.size, 91, (nodeV 1 p v K).toArray)]) := Lib.hid (F.out.drop 1)
  obtain ⟨q0, q1, q2, RK, _⟩ := NodeAt.of (C := []) (by rw [List.append_nil]; exact F.out.blk 0 rfl)
  go_wp2_with fail
  refine (HPk.out _).mono ?_
  rintro e w1 ⟨rfl, hb⟩
  (first | have F := Live.hb F hb | have F := Live.hbd F hb); clear hb
  clear q0 q1 q2 RK
  obtain ⟨q0, q1, q2, RK, _⟩ := NodeAt.of (C := []) (by rw [List.append_nil]; exact F.out.blk 0 rfl)
  go_wp2_with fail
  refine (HT1.out _).mono ?_
  rintro e w2 ⟨rfl, hb⟩
  (first | have F := Live.hb F hb | have F := Live.hbd F hb); clear hb
  clear q0 q1 q2 RK
  obtain ⟨q0, q1, q2, RK, _⟩ := NodeAt.of (C := []) (by rw [List.append_nil]; exact F.out.blk 0 rfl)
  go_wp2_with fail
  refine (HT2.out _).mono ?_
  rintro e w3 ⟨rfl, hb⟩
  (first | have F := Live.hb F hb | have F := Live.hbd F hb); clear hb
  go_wp2
  exact HP.out _ _ rfl F.out.b
set_option maxRecDepth 100000 in
set_option maxHeartbeats 4000000 in
theorem ref08_written2 (w : World) (p v : List UInt8) (K : List (List UInt8)) (hK : K.length = 16) (hf : fineN 2 p v K = true) :
    Calls Tryd.prog 108 #[.agg (nodeV 2 p v K).toArray] w (Ret w (.string ⟨(nodeText 2 p v K).toArray⟩)) := by
  obtain ⟨_, hfit, hp, hv, hs⟩ := fineN_parts hf
  have hk0 := (fine_ext hf).1
  have HP : Hid (∀ s w', nodeText 2 p v K = s → Below w.heap.size w w' → Ret w (.string ⟨(nodeText 2 p v K).toArray⟩) (Ending.returned (.string ⟨s.toArray⟩)) w') := Lib.hid (fun b w' h h2 => by rw [h]; exact ⟨rfl, h2⟩)
  generalize Ret w (.string ⟨(nodeText 2 p v K).toArray⟩) = P at HP ⊢
  rw [show nodeText 2 p v K = 2 :: (textW (Nib.packed p false) ++ K.getD 0 []) from rfl] at HP
  have hpl := Nib.packed_length p false
  have HPk := Lib.hid (fun W => refnib_Pack p false W (by omega))
  rw [show Nib.pack p false = (Nib.packed p false, 0) by unfold Nib.pack; rw [hfit]; rfl] at HPk
  have HT1 := Lib.hid (fun W => ref02_Text (Nib.packed p false) (by omega) W)
  have l1 := textW_len (Nib.packed p false) (by omega)
  have l1 : (textW (Nib.packed p false)).length ≤ 1000 := by omega
  have HK0 := Lib.hid (strv_getD (K := K) (i := 0) (by omega))
  clear hf hs hpl hfit
  generalize textW (Nib.packed p false) = X at *
  generalize Nib.packed p false = pk at *
  generalize K.getD 0 [] = k0 at *
  have m1 : 1 + X.length ≤ 9223372036854775807 := by omega
  have m2 : 1 + X.length + k0.length ≤ 9223372036854775807 := by omega
  have m3 : X.length + 1 + k0.length ≤ 9223372036854775807 := by omega
  clear hk0
  go_enter Tryd.func108, Tryd.ntmps108
  go_upto_region 1 with fail
  have F := Live.ha (Lib.hid (Live.start w)) (nodeV 2 p v K).toArray 91
  generalize w.alloc (.cells (nodeV 2 p v K).toArray 91) = W0 at F ⊢
  obtain ⟨q0, q1, q2, RK, _⟩ := NodeAt.of (C := []) (by rw [List.append_nil]; exact F.out.blk 0 rfl)
  have cv := conv1 W0 2 (by omega) (by omega)
  go_upto_region 2 with fail
  have F := Live.ha F #[.int .u8 2] 5
  clear cv q0 q1 q2 RK
  generalize W0.alloc (.cells #[.int .u8 2] 5) = W1 at F ⊢
  replace F : Hid (Live w W1 [(w.heap.size, 91, (nodeV 2 p v K).toArray)]) := Lib.hid (F.out.drop 1)
  obtain ⟨q0, q1, q2, RK, _⟩ := NodeAt.of (C := []) (by rw [List.append_nil]; exact F.out.blk 0 rfl)
  go_wp2_with fail
  refine (HPk.out _).mono ?_
  rintro e w1 ⟨rfl, hb⟩
  (first | have F := Live.hb F hb | have F := Live.hbd F hb); clear hb
  clear q0 q1 q2 RK
  obtain ⟨q0, q1, q2, RK, _⟩ := NodeAt.of (C := []) (by rw [List.append_nil]; exact F.out.blk 0 rfl)
  go_wp2_with fail
  refine (HT1.out _).mono ?_
  rintro e w2 ⟨rfl, hb⟩
  (first | have F := Live.hb F hb | have F := Live.hbd F hb); clear hb
  clear q0 q1 q2 RK
  obtain ⟨q0, q1, q2, RK, _⟩ := NodeAt.of (C := []) (by rw [List.append_nil]; exact F.out.blk 0 rfl)
  have q3 : w2.cell? ⟨w.heap.size, 3, none⟩ = some (.string ⟨k0.toArray⟩) := RK 0 _ HK0.out
  clear RK
  go_wp2
  exact HP.out _ _ rfl F.out.b
theorem ref08_Written (w : World) (k : Nat) (p v : List UInt8) (K : List (List UInt8)) (hK : K.length = 16) (hf : fineN k p v K = true) :
    Calls Tryd.prog 108 #[.agg (nodeV k p v K).toArray] w (Ret w (.string ⟨(nodeText k p v K).toArray⟩)) := by
  obtain ⟨h1 | h1 | h1, _⟩ := id (fineN_parts hf)
  · subst h1; exact ref08_written1 w p v K hK hf
  · subst h1; exact ref08_written2 w p v K hK hf
  · subst h1
    have hp : p = [] := by simp [fineN] at hf; exact hf.1.1.1
    subst hp
    exact ref08_written3 w v K hK hf

set_option maxRecDepth 100000 in
set_option maxHeartbeats 4000000 in
theorem ref08_Digest (w : World) (k : Nat) (p v : List UInt8) (K : List (List UInt8)) (hK : K.length = 16) (hf : fineN k p v K = true) :
    Calls Tryd.prog 109 #[.agg (nodeV k p v K).toArray] w (Ret w (.string ⟨(nodeSum k p v K).toArray⟩)) := by
  have HP : Hid (∀ w', Below w.heap.size w w' → Ret w (.string ⟨(nodeSum k p v K).toArray⟩) (Ending.returned (.string ⟨(nodeSum k p v K).toArray⟩)) w') := Lib.hid (fun w' h2 => ⟨rfl, h2⟩)
  generalize Ret w (.string ⟨(nodeSum k p v K).toArray⟩) = P at HP ⊢
  have HF := Lib.hid (fun W => ref08_Fine W k p v K hK (by have := (fineN_parts hf).2.2.1; omega))
  rw [fineR_eq k p v K hK, hf] at HF
  have HW := Lib.hid (fun W => ref08_Written W k p v K hK hf)
  have hl := nodeText_len hK hf
  have HT : Hid (∀ W, Calls Tryd.prog 68 #[.int .i64 1, .string ⟨(nodeText k p v K).toArray⟩] W (Ret W (.string ⟨(nodeSum k p v K).toArray⟩))) := Lib.hid (fun W => ref04_Tagged W 1 (by omega) _ (by omega))
  clear hl hf
  generalize nodeText k p v K = T at *
  generalize nodeSum k p v K = S at *
  go_enter Tryd.func109, Tryd.ntmps109
  go_upto_region 1 with fail
  have SZ : (Tryd.prog.info? 91).map (·.size) = some (nodeV k p v K).length := by rw [nodeV_size hK]; exact info_node
  have F := Live.ha (Lib.hid (Live.start w)) (nodeV k p v K).toArray 91
  generalize w.alloc (.cells (nodeV k p v K).toArray 91) = W0 at F ⊢
  obtain ⟨_, _, _, _, RA⟩ := NodeAt.of (C := []) (by rw [List.append_nil]; exact F.out.blk 0 rfl)
  go_wp2_with (first | (refine wpList_load_mid rfl 91 _ rfl w.heap.size 0 rfl _ _ RA Tryd.underlying91 rfl SZ ?_))
  refine (HF.out _).mono ?_
  rintro e w1 ⟨rfl, hb⟩
  (first | have F := Live.hb F hb | have F := Live.hbd F hb); clear hb
  clear RA
  obtain ⟨_, _, _, _, RA⟩ := NodeAt.of (C := []) (by rw [List.append_nil]; exact F.out.blk 0 rfl)
  go_wp2_with (first | (refine wpList_load_mid rfl 91 _ rfl w.heap.size 0 rfl _ _ RA Tryd.underlying91 rfl SZ ?_))
  refine (HW.out _).mono ?_
  rintro e w2 ⟨rfl, hb⟩
  (first | have F := Live.hb F hb | have F := Live.hbd F hb); clear hb
  clear RA
  obtain ⟨_, _, _, _, RA⟩ := NodeAt.of (C := []) (by rw [List.append_nil]; exact F.out.blk 0 rfl)
  go_wp2_with fail
  refine (HT.out _).mono ?_
  rintro e w3 ⟨rfl, hb⟩
  (first | have F := Live.hb F hb | have F := Live.hbd F hb); clear hb
  go_wp2
  exact HP.out _ F.out.b
end Go.Proofs.YtefcmigbdfeaiaaDoor

/- The document's layer 10 (trie): a spot. No conditions. -/
namespace Go.Proofs.YtefcmigbdfeaiaaDoor
set_option linter.unusedVariables false
open Go.RowKit Go.Instr
attribute [local go_sem] ba_get ByteArray.mk_append_mk
/-- knots at their places, as the document's spots -/
def spv (D : List (List UInt8 × Trie.T)) : List Value :=
  D.flatMap fun x => .string ⟨x.1.toArray⟩ :: .string ⟨(Trie.textT x.2).toArray⟩ :: .string ⟨(Trie.sumT x.2).toArray⟩ :: nodeV (Trie.kindT x.2) (Trie.pathT x.2) (Trie.valT x.2) (Trie.sumsT x.2)
theorem spv_length : ∀ D : List (List UInt8 × Trie.T), (spv D).length = D.length * 22
  | [] => rfl
  | x :: D => by
    have := spv_length D
    have h2 := nodeV_size (k := Trie.kindT x.2) (p := Trie.pathT x.2) (v := Trie.valT x.2) (Trie.sumsT_length x.2)
    unfold spv at *
    rw [List.flatMap_cons, List.length_append, this]
    simp only [List.length_cons, h2]
    omega
theorem spv_one (D : List (List UInt8 × Trie.T)) : ∀ u ∈ spv D, u.oneCell' = true := by
  intro u hu
  unfold spv at hu
  rw [List.mem_flatMap] at hu
  obtain ⟨x, _, hu⟩ := hu
  simp only [nodeV, List.mem_cons] at hu
  rcases hu with rfl | rfl | rfl | rfl | rfl | rfl | hu
  · rfl
  · rfl
  · rfl
  · rfl
  · rfl
  · rfl
  · exact strv_one _ _ hu
def SpotsEnd (w : World) (D : List (List UInt8 × Trie.T)) (e : Ending) (w' : World) : Prop :=
  ∃ A c n, e = .returned (.slice A n c) ∧ n = D.length ∧ w'.ownsRow w.heap.size 93 22 (.slice A n c) n (spv D) ∧ Below w.heap.size w w'
theorem info_spot : (Tryd.prog.info? 93).map (fun i => (i.zero, i.size, i.bytes)) = some (some (.agg #[.string ⟨#[]⟩, .string ⟨#[]⟩, .string ⟨#[]⟩, .int .i64 0, .string ⟨#[]⟩, .string ⟨#[]⟩, .string ⟨#[]⟩, .string ⟨#[]⟩, .string ⟨#[]⟩, .string ⟨#[]⟩, .string ⟨#[]⟩, .string ⟨#[]⟩, .string ⟨#[]⟩, .string ⟨#[]⟩, .string ⟨#[]⟩, .string ⟨#[]⟩, .string ⟨#[]⟩, .string ⟨#[]⟩, .string ⟨#[]⟩, .string ⟨#[]⟩, .string ⟨#[]⟩, .string ⟨#[]⟩]), 22, 344) := by kernel_rfl
theorem built_spot0 (a b c : ByteArray) (n0 n1 n2 n3 n4 n5 n6 n7 n8 n9 n10 n11 n12 n13 n14 n15 n16 n17 n18 : Value) : Tryd.prog.built 93 [(0, .string a), (1, .string b), (2, .string c), (3, .agg #[n0, n1, n2, n3, n4, n5, n6, n7, n8, n9, n10, n11, n12, n13, n14, n15, n16, n17, n18])] = some #[.string a, .string b, .string c, n0, n1, n2, n3, n4, n5, n6, n7, n8, n9, n10, n11, n12, n13, n14, n15, n16, n17, n18] := by kernel_rfl
theorem built_spot (a b c : ByteArray) (NV : List Value) (h : NV.length = 19) : Tryd.prog.built 93 [(0, .string a), (1, .string b), (2, .string c), (3, .agg NV.toArray)] = some (.string a :: .string b :: .string c :: NV).toArray := by
  match NV, h with
  | [n0, n1, n2, n3, n4, n5, n6, n7, n8, n9, n10, n11, n12, n13, n14, n15, n16, n17, n18], _ => exact built_spot0 a b c n0 n1 n2 n3 n4 n5 n6 n7 n8 n9 n10 n11 n12 n13 n14 n15 n16 n17 n18
theorem yieldsIf_build {P : Program} {ops : Array Oper} {S : World → Prop} {op : Oper} {a : Act} (hw : Region.wanted op (yielded ops a.tmps) = true) (t : TypeId) (parts : Array (Nat × Operand)) (ho : op.op = .build t parts)
    (cells : Array Value) (hb : P.built t (parts.map fun (i, x) => (i, a.eval x)).toList = some cells) : YieldsIf P ops S op (.agg cells) a :=
  .inl ⟨hw, fun w _ => by unfold execOp; simp only [ho, Sem.run_bind, run_build w t _ cells hb, Result.andThen_ok]; rfl⟩
theorem list22 {α : Type} : ∀ l : List α, l.length = 22 → ∃ m0 m1 m2 m3 m4 m5 m6 m7 m8 m9 m10 m11 m12 m13 m14 m15 m16 m17 m18 m19 m20 m21, l = [m0, m1, m2, m3, m4, m5, m6, m7, m8, m9, m10, m11, m12, m13, m14, m15, m16, m17, m18, m19, m20, m21]
  | [m0, m1, m2, m3, m4, m5, m6, m7, m8, m9, m10, m11, m12, m13, m14, m15, m16, m17, m18, m19, m20, m21], _ => ⟨m0, m1, m2, m3, m4, m5, m6, m7, m8, m9, m10, m11, m12, m13, m14, m15, m16, m17, m18, m19, m20, m21, rfl⟩
theorem step_spot {ops : Array Oper} {o : Oper} {a : Act} {w : World} {K : Act → World → Prop} {Q : Exit → Act → World → Prop} {E : Prop} (x : Operand) (C : List Value) (hC : C.length = 22) (hgd : o.guard = none) (ho : o.op = .buildSlice 34 1 #[(0, x)]) (hx : a.eval x = .agg C.toArray)
    (h : K (a.put o.dst (.slice (some ⟨w.heap.size, 0, none⟩) 1 1)) (w.alloc (.cells C.toArray 93))) :
    if Region.wanted o (yielded ops a.tmps) = true then Oper.wp Tryd.prog o a w K Q else E := by
  have hw : Region.wanted o (yielded ops a.tmps) = true := by simp [Region.wanted, hgd]
  rw [if_pos hw]
  obtain ⟨i, hi, hz, hsize, hby⟩ := info_parts info_spot
  refine wp_buildSlice 34 93 1 #[(0, x)] ho C.toArray i _ Tryd.underlying34 hi hz (by rw [hsize]; decide) (by rw [hsize]; decide) ?_ h
  rw [hsize]
  obtain ⟨m0, m1, m2, m3, m4, m5, m6, m7, m8, m9, m10, m11, m12, m13, m14, m15, m16, m17, m18, m19, m20, m21, rfl⟩ := list22 C hC
  simp only [List.map_toArray, List.map_cons, List.map_nil, hx]
  kernel_rfl
theorem Live.range1 {w W : World} {L : List (Nat × Nat × Array Value)} {t : Nat} {cs : List Value} (h : Live w W L) (g : Nat) (i : Nat) (hi : L[i]? = some (g, t, cs.toArray)) : W.rangeAt g 0 cs := fun j u hu => by
  rw [Nat.zero_add]; exact h.cell i j hi (by simpa using hu)
set_option maxRecDepth 100000 in
set_option maxHeartbeats 4000000 in
theorem ref10_spot (w : World) (pl : List UInt8) (t : Trie.T) (hn : t ≠ .nil) (hw : Trie.wf t) (hs : Trie.small t) (D : List (List UInt8 × Trie.T)) (hD : D.length ≤ 100000) (A : Option Addr) (c : Nat) (HR : Reads w w.heap.size 22 A D.length (spv D)) :
    Calls Tryd.prog 81 #[.string ⟨pl.toArray⟩, .agg (nodeV (Trie.kindT t) (Trie.pathT t) (Trie.valT t) (Trie.sumsT t)).toArray, .slice A D.length c] w (SpotsEnd w ((pl, t) :: D)) := by
  have HP : Hid (∀ A c n w', n = D.length + 1 → w'.ownsRow w.heap.size 93 22 (.slice A n c) n (spv ((pl, t) :: D)) → Below w.heap.size w w' → SpotsEnd w ((pl, t) :: D) (.returned (.slice A n c)) w') := Lib.hid (fun A c n w' g1 g2 g3 => ⟨A, c, n, rfl, g1, g2, g3⟩)
  generalize SpotsEnd w ((pl, t) :: D) = P at HP ⊢
  have hf := Trie.fineT hn hw hs
  have HS : Hid (spv ((pl, t) :: D) = (.string ⟨pl.toArray⟩ :: .string ⟨(Trie.textT t).toArray⟩ :: .string ⟨(Trie.sumT t).toArray⟩ :: nodeV (Trie.kindT t) (Trie.pathT t) (Trie.valT t) (Trie.sumsT t)) ++ spv D) := Lib.hid rfl
  have HWr : Hid (∀ W, Calls Tryd.prog 108 #[.agg (nodeV (Trie.kindT t) (Trie.pathT t) (Trie.valT t) (Trie.sumsT t)).toArray] W (Ret W (.string ⟨(Trie.textT t).toArray⟩))) := Lib.hid (fun W => ref08_Written W _ _ _ _ (Trie.sumsT_length t) hf)
  have HDg : Hid (∀ W, Calls Tryd.prog 109 #[.agg (nodeV (Trie.kindT t) (Trie.pathT t) (Trie.valT t) (Trie.sumsT t)).toArray] W (Ret W (.string ⟨(Trie.sumT t).toArray⟩))) := Lib.hid (fun W => by rw [Trie.sumT_eq hn]; exact ref08_Digest W _ _ _ _ (Trie.sumsT_length t) hf)
  have hone := spv_one ((pl, t) :: D)
  rw [HS.out] at hone
  have Hone := Lib.hid (fun u (hu : u ∈ (.string ⟨pl.toArray⟩ :: .string ⟨(Trie.textT t).toArray⟩ :: .string ⟨(Trie.sumT t).toArray⟩ :: nodeV (Trie.kindT t) (Trie.pathT t) (Trie.valT t) (Trie.sumsT t))) => hone u (List.mem_append_left _ hu))
  have HoneD := Lib.hid (spv_one D)
  have Hsz := Lib.hid (nodeV_size (k := Trie.kindT t) (p := Trie.pathT t) (v := Trie.valT t) (Trie.sumsT_length t))
  clear hf hone
  generalize Trie.textT t = T at *
  generalize Trie.sumT t = S at *
  generalize hNV : nodeV (Trie.kindT t) (Trie.pathT t) (Trie.valT t) (Trie.sumsT t) = NV at *
  clear hNV hw hs
  have HRd := Lib.hid HR
  have HDl := Lib.hid hD
  clear HR hD
  go_enter Tryd.func81, Tryd.ntmps81
  go_upto_region 2 with fail
  have SZ : (Tryd.prog.info? 91).map (·.size) = some NV.length := by rw [Hsz.out]; exact info_node
  have F := Live.ha (Lib.hid (Live.start w)) NV.toArray 91
  generalize w.alloc (.cells NV.toArray 91) = W0 at F ⊢
  have RA : W0.rangeAt w.heap.size 0 NV := fun j u hu => by rw [Nat.zero_add]; exact F.out.cell 0 j rfl (by simpa using hu)
  have UN := Tryd.underlying91
  refine wp_region_held_drew (S := fun w' => w'.rangeAt w.heap.size 0 NV) (by kernel_rfl) RA (fun hHeld => ?_)
  refine wpAnyH_take (i := 0) (oi := ⟨some 8, _, _, _, _, _⟩) (v := ?_) rfl (by kernel_rfl) (by kernel_rfl) (by kernel_rfl) (fun _ _ _ h => h) (Or.inl ⟨by rfl, ?_⟩) (by assumption) ?_
  rotate_left
  · intro w hSw
    try dsimp only at hSw
    go_simp
    first | done | with_reducible rfl
  try simp only [Act.put, List.setIfInBounds_toArray, List.set_cons_zero, List.set_cons_succ]
  refine wpAnyH_take (i := 1) (oi := ⟨some 9, _, _, _, _, _⟩) (v := ?_) rfl (by kernel_rfl) (by kernel_rfl) (by kernel_rfl) (fun _ _ _ h => h) (Or.inl ⟨by rfl, ?_⟩) (by assumption) ?_
  rotate_left
  · intro w hSw
    try dsimp only at hSw
    go_simp
    first | done | with_reducible rfl
  try simp only [Act.put, List.setIfInBounds_toArray, List.set_cons_zero, List.set_cons_succ]
  refine' wpAnyH_take (i := 2) (oi := ⟨some 10, _, _, _, _, _⟩) (v := _) rfl (by kernel_rfl) (by kernel_rfl) (by kernel_rfl) (fun _ _ _ h => h) (yieldsIf_load_mid (by rfl) _ _ rfl w.heap.size 0 rfl NV _ (fun w h => h) UN rfl SZ) (by assumption) ?_
  try simp only [Act.put, List.setIfInBounds_toArray, List.set_cons_zero, List.set_cons_succ]
  refine' wpAnyH_take (i := 4) (oi := ⟨some 12, _, _, _, _, _⟩) (v := _) rfl (by kernel_rfl) (by kernel_rfl) (by kernel_rfl) (fun _ _ _ h => h) (yieldsIf_load_mid (by rfl) _ _ rfl w.heap.size 0 rfl NV _ (fun w h => h) UN rfl SZ) (by assumption) ?_
  try simp only [Act.put, List.setIfInBounds_toArray, List.set_cons_zero, List.set_cons_succ]
  refine' wpAnyH_take (i := 6) (oi := ⟨some 14, _, _, _, _, _⟩) (v := _) rfl (by kernel_rfl) (by kernel_rfl) (by kernel_rfl) (fun _ _ _ h => h) (yieldsIf_load_mid (by rfl) _ _ rfl w.heap.size 0 rfl NV _ (fun w h => h) UN rfl SZ) (by assumption) ?_
  try simp only [Act.put, List.setIfInBounds_toArray, List.set_cons_zero, List.set_cons_succ]
  refine wpAnyH_ready (rs := [3]) (by kernel_rfl) (by simp) ?_
  refine AllReadyH.cons rfl (fun K hK => ?_) AllReadyH.nil
  go_simp
  refine (HWr.out _).mono ?_
  rintro e W9 ⟨rfl, hb⟩
  (first | have F := Live.hb F hb | have F := Live.hbd F hb); clear hb
  have RA : W9.rangeAt w.heap.size 0 NV := fun j u hu => by rw [Nat.zero_add]; exact F.out.cell 0 j rfl (by simpa using hu)
  go_simp
  refine hK.out _ _ RA (fun hHeld => ?_)
  clear hK K
  refine wpAnyH_ready (rs := [5]) (by kernel_rfl) (by simp) ?_
  refine AllReadyH.cons rfl (fun K hK => ?_) AllReadyH.nil
  go_simp
  refine (HDg.out _).mono ?_
  rintro e W9 ⟨rfl, hb⟩
  (first | have F := Live.hb F hb | have F := Live.hbd F hb); clear hb
  have RA : W9.rangeAt w.heap.size 0 NV := fun j u hu => by rw [Nat.zero_add]; exact F.out.cell 0 j rfl (by simpa using hu)
  go_simp
  refine hK.out _ _ RA (fun hHeld => ?_)
  clear hK K
  have HBt := built_spot ⟨pl.toArray⟩ ⟨T.toArray⟩ ⟨S.toArray⟩ NV Hsz.out
  refine wpAnyH_take (i := 7) (oi := ⟨some 15, _, _, _, _, _⟩) (v := .agg (.string ⟨pl.toArray⟩ :: .string ⟨T.toArray⟩ :: .string ⟨S.toArray⟩ :: NV).toArray) rfl (by kernel_rfl) (by kernel_rfl) (by kernel_rfl) (fun _ _ _ h => h) (yieldsIf_build (by rfl) _ _ rfl _ (by simp only [List.map_toArray, List.map_cons, List.map_nil]; exact HBt)) (by assumption) ?_
  try simp only [Act.put, List.setIfInBounds_toArray, List.set_cons_zero, List.set_cons_succ]
  refine wpAnyH_ready (rs := [8]) (by kernel_rfl) (by simp) ?_
  refine AllReadyH.cons rfl (fun K hK => ?_) AllReadyH.nil
  refine step_spot _ (.string ⟨pl.toArray⟩ :: .string ⟨T.toArray⟩ :: .string ⟨S.toArray⟩ :: NV) (by simp [Hsz.out]) rfl rfl rfl ?_
  refine hK.out _ _ ?_ (fun hHeld => ?_)
  · exact (F.out.alloc _ _).range1 w.heap.size 1 rfl
  clear hK K RA
  have hcl : (.string ⟨pl.toArray⟩ :: .string ⟨T.toArray⟩ :: .string ⟨S.toArray⟩ :: NV).length = 1 * 22 := by simp [Hsz.out]
  obtain ⟨i0, hi0, hz0, hz1, hz2⟩ := info_parts info_spot
  refine wpAnyH_ready (rs := [9]) (by kernel_rfl) (by simp) ?_
  refine AllReadyH.cons rfl (fun K hK => ?_) AllReadyH.nil
  refine step_append_row W9 93 (.string ⟨pl.toArray⟩ :: .string ⟨T.toArray⟩ :: .string ⟨S.toArray⟩ :: NV) rfl _ _ 34 rfl w.heap.size 22 344 _ info_spot Tryd.underlying34 rfl (by decide) (.slice none 0 0) 0 [] rfl (World.ownsRow_nil _ _ _ _) 1 1 rfl hcl Hone.out (by simp only [maxLen]; omega) (by omega) w.heap.size w F.out.b (Nat.le_refl _) F.out.b.size ?_
  intro v3 w3 own3 hb3 hg3 _ _
  have F := Live.hp F (World.ownsRow_nil W9 w.heap.size 93 22) (Nat.le_refl _) (by simp) hg3
  refine hK.out _ _ (F.out.range1 w.heap.size 0 rfl) (fun hHeld => ?_)
  clear hK K
  rw [Nat.zero_add, List.nil_append] at own3
  obtain ⟨A3, c3, rfl, _, _, _⟩ := own_form own3
  try simp only [Act.put, List.setIfInBounds_toArray, List.set_cons_zero, List.set_cons_succ]
  refine wpAnyH_take (i := 10) (oi := ⟨some 7, _, _, _, _, _⟩) (v := ?_) rfl (by kernel_rfl) (by kernel_rfl) (by kernel_rfl) (fun _ _ _ h => h) (Or.inl ⟨by rfl, ?_⟩) (by assumption) ?_
  rotate_left
  · intro w hSw
    try dsimp only at hSw
    go_simp
    first | done | with_reducible rfl
  try simp only [Act.put, List.setIfInBounds_toArray, List.set_cons_zero, List.set_cons_succ]
  refine wpAnyH_done (by kernel_rfl) ?_ _
  have R3 : Reads w3 w.heap.size 22 A D.length (spv D) := HRd.out.below F.out.b
  have hDl := HDl.out
  clear hHeld
  go_wp2_with (at_builtin; refine wpList_append_any w3 rfl _ _ 34 rfl w.heap.size 93 i0 _ 22 344 Tryd.underlying34 hi0 hz0 hz1 hz2 rfl (by decide) (.slice A3 1 c3) 1 (.string ⟨pl.toArray⟩ :: .string ⟨T.toArray⟩ :: .string ⟨S.toArray⟩ :: NV) rfl own3 w.heap.size A D.length c (spv D) rfl R3 HoneD.out (by simp only [maxLen]; omega) (by omega) F.out.b.size ?_; intro v4 w4 own4 hg4 _; obtain ⟨A4, c4, rfl, _, _, _⟩ := own_form own4; have F4 := Live.hp F own3 (Nat.le_refl _) (by simp) hg4; have O4 := Lib.hid own4; clear own4 hg4 own3 R3)
  refine HP.out A4 c4 (1 + D.length) _ (by omega) ?_ F4.out.b
  rw [HS.out]
  exact O4.out
end Go.Proofs.YtefcmigbdfeaiaaDoor

/- Layer 10's laws: works. No conditions. -/
namespace Go.Proofs.YtefcmigbdfeaiaaDoor
set_option linter.unusedVariables false
open Go.RowKit Go.Instr
attribute [local go_sem] ba_get ByteArray.mk_append_mk
attribute [local go_sem ↓] Go.wp_at_zero Go.wp_at_succ

namespace Trie
/-- the two tries that 'works' looks at -/
def works1 : T := (ofW .nil [([97, 98], [50]), ([97], [49])]).1
def works2 : T := (ofW .nil [([107], [118])]).1
theorem works1_of : ofW .nil [([97, 98], [50]), ([97], [49])] = (works1, 0) := by
  rw [works1, show (ofW .nil [([97, 98], [50]), ([97], [49])]) = ((ofW .nil [([97, 98], [50]), ([97], [49])]).1, (ofW .nil [([97, 98], [50]), ([97], [49])]).2) from rfl]
  congr 1
theorem works2_of : ofW .nil [([107], [118])] = (works2, 0) := by
  rw [works2, show (ofW .nil [([107], [118])]) = ((ofW .nil [([107], [118])]).1, (ofW .nil [([107], [118])]).2) from rfl]
  congr 1
theorem works1_count : count works1 = 2 := by decide +kernel
theorem works1_get : getW works1 [97, 98] = ([50], 0) := by decide +kernel
theorem works1_nn : works1 ≠ .nil := by
  intro h
  have := works1_count
  rw [h] at this
  simp [count] at this
theorem works2_count : count works2 = 1 := by decide +kernel
end Trie
theorem works2_told : toldW allW Trie.works2 = [[1, 1, 2, 32, 107, 1, 1, 118]] := by decide +kernel
theorem works1_told : (toldW allW Trie.works1).length = 3 := by
  rw [toldW, textsD, List.length_map]
  decide +kernel

theorem reads_blk {w : World} {b e size n : Nat} {xs : Array Value} (h : Blk w b e xs) (hn : xs.size = n * size) : Reads w w.heap.size size (some ⟨b, 0, none⟩) n xs.toList := by
  refine ⟨by simpa using hn, fun _ => ⟨_, rfl, h.lt, fun j u hu => ?_⟩⟩
  have hj : j < xs.size := by have := (List.getElem?_eq_some_iff.1 hu).1; simpa using this
  have := h.cell j
  rw [show (⟨b, 0, none⟩ : Addr).add j = ⟨b, j, none⟩ by unfold Addr.add; split <;> simp_all]
  rw [this]
  simpa using hu

set_option maxRecDepth 100000 in
set_option maxHeartbeats 1000000 in
theorem law10_works (w : World) (hT : Tbl w) :
    Calls Tryd.prog 12 #[] w fun e w' => e = .returned (.bool true) ∧ Below w.heap.size w w' := by
  have HP : Hid (∀ w', Below w.heap.size w w' → (fun e w' => e = Ending.returned (.bool true) ∧ Below w.heap.size w w') (Ending.returned (.bool true)) w') := Lib.hid (fun W' a2 => ⟨rfl, a2⟩)
  generalize (fun e w' => e = Ending.returned (.bool true) ∧ Below w.heap.size w w') = P at HP ⊢
  have HTb := Lib.hid hT
  have HW : Hid (∀ (W : World) f, Below W.heap.size W (W.alloc (.cells f 26))) := Lib.hid (fun W f => by go_grown)
  clear hT
  go_enter Tryd.func12, Tryd.ntmps12
  go_wp2_with fail
  refine (trie_Of [([97, 98], [50]), ([97], [49])] (by simp) (by simp) _ ?_ _ _ ?_).mono ?_
  · exact HTb.out.next (by go_grown)
  · exact reads_blk (Blk.new _ _ _) (by simp)
  rw [Trie.works1_of]
  rintro e w1 ⟨v1, rfl, hb1, hk1, _⟩
  have HB1 : Hid (Below w.heap.size w w1) := Lib.hid ((HW.out _ _).nxt hb1)
  have HK1 := Lib.hid (hk1 rfl)
  clear hb1 hk1
  go_wp2_with fail
  refine (trie_Of [([107], [118])] (by simp) (by simp) _ ?_ _ _ ?_).mono ?_
  · exact HTb.out.next (HB1.out.nxt (by go_grown))
  · exact reads_blk (Blk.new _ _ _) (by simp)
  rw [Trie.works2_of]
  rintro e w2 ⟨v2, rfl, hb2, hk2, _⟩
  have HB2 : Hid (Below w1.heap.size w1 w2) := Lib.hid ((HW.out _ _).nxt hb2)
  have HK2 := Lib.hid (hk2 rfl)
  clear hb2 hk2
  obtain ⟨_, b1, x1, rfl, _⟩ := id HK1.out
  obtain ⟨_, b2, x2, rfl, _⟩ := id HK2.out
  go_wp2_with fail
  refine (trie_Nodes _ _ _ HK2.out (by decide +kernel)).mono ?_
  rw [works2_told]
  rintro e w3 ⟨A, n, c, rfl, rfl, hown, hb3⟩
  have HB3 := Lib.hid hb3
  obtain ⟨ad, off, rfl, hlt, hc⟩ := (Reads.of_own hown).form (by simp) (by simp)
  have c0 : w3.cell? ⟨ad, off, none⟩ = some (.string ⟨#[1, 1, 2, 32, 107, 1, 1, 118]⟩) := hc 0 (by simp [strv])
  clear hown hb3 hc
  go_wp2_with fail
  refine (trie_Get _ _ _ (HK1.out.next (HB2.out.nxt HB3.out)) [97, 98] (by simp)).mono ?_
  rw [Trie.works1_get]
  rintro e w4 ⟨rfl, hb4⟩
  have HB4 : Hid (Below w1.heap.size w1 w4) := Lib.hid ((HB2.out.nxt HB3.out).nxt hb4)
  have c4 := (hb4.cell (p := ⟨ad, off, none⟩) hlt).trans c0
  clear hb4 c0
  go_wp2_with fail
  refine (trie_Len _ _ _ (HK1.out.next HB4.out)).mono ?_
  rw [Trie.works1_count]
  rintro e w5 ⟨rfl, rfl⟩
  go_wp2_with fail
  refine (trie_Nodes _ _ _ (HK1.out.next HB4.out) (by decide +kernel)).mono ?_
  rintro e w6 ⟨A6, n6, c6, rfl, hn6, _, hb6⟩
  rw [works1_told] at hn6
  subst hn6
  have HB6 : Hid (Below w1.heap.size w1 w6) := Lib.hid (HB4.out.nxt hb6)
  clear hb6
  go_wp2_with fail
  refine (trie_Root _ _ _ (HK1.out.next HB6.out)).mono ?_
  have hs := Trie.sumT_len Trie.works1_nn
  rintro e w7 ⟨rfl, rfl⟩
  generalize Trie.sumT Trie.works1 = sm at *
  go_wp2_with fail
  exact HP.out _ (HB1.out.nxt HB6.out)
end Go.Proofs.YtefcmigbdfeaiaaDoor
