import Derived.Test.YtefcmigbdfeaiaaDoorJ12
import Derived.Test.YtefcmigbdfeaiaaDoorJ08
set_option linter.unusedSimpArgs false
set_option linter.unusedVariables false
/- The walks of layer 8 (node): Encode. No conditions. -/
namespace Go.Proofs.YtefcmigbdfeaiaaDoor
set_option linter.unusedVariables false
open Go.RowKit Go.Instr
attribute [local go_sem] ba_get ByteArray.mk_append_mk

set_option maxRecDepth 100000 in
set_option maxHeartbeats 1000000 in
theorem encode_ext (p v : List UInt8) (K : List (List UInt8)) (hK : K.length = 16) (hKs : ∀ s ∈ K, s.length ≤ 9223372036854775807) (hf : fineN 2 p v K = true) (w : World) :
    Calls Tryd.prog 112 #[.agg (nodeV 2 p v K).toArray] w (EncEnd w (nodeText 2 p v K) 0) := by
  have hf2 : (Nib.fit p = true ∧ p.length ≤ 16) ∧ (K.getD 0 []).length = 32 ∧ v = [] := by
    simp only [fineN, pathOk, sumsOk] at hf
    simp at hf
    exact ⟨⟨hf.1.2.1, hf.1.2.2.2⟩, by simpa using hf.1.1.2, hf.2⟩
  obtain ⟨hf2a, hK0, rfl⟩ := hf2
  have hf2 := And.intro hf2a hf2a
  clear hf2a
  have HK0 := Lib.hid (strv_at (l := K) (i := 0) (by omega))
  have HK1 := Lib.hid (show K[0]'(by omega) = K.getD 0 [] by rw [List.getD_eq_getElem?_getD, List.getElem?_eq_getElem (show 0 < K.length by omega)]; rfl)
  have HP : Hid (∀ s w', nodeText 2 p [] K = s → Below w.heap.size w w' → EncEnd w (nodeText 2 p [] K) 0 (.returned (.tuple #[.string ⟨s.toArray⟩, .int .i64 0])) w') := Lib.hid (fun b w' h1 h2 => ⟨by rw [h1], h2⟩)
  have HC := node_Check 2 p [] (by omega) (by simp) K hK hKs
  rw [hf] at HC
  have hp16 := hf2.1.2
  have HPk := nib_Pack p false
  rw [show Nib.pack p false = (Nib.packed p false, 0) by unfold Nib.pack; rw [hf2.1.1]; rfl] at HPk
  have hpl := Nib.packed_length p false
  have HT2 := code_Text (Nib.packed p false) (by omega)
  have HF : Hid (nodeText 2 p [] K = 2 :: (textW (Nib.packed p false) ++ K.getD 0 [])) := Lib.hid (by simp [nodeText])
  have hl2 := textW_len (Nib.packed p false) (by omega)
  have hl2' : (textW (Nib.packed p false)).length ≤ 1000 := by omega
  have HSz := Lib.hid (nodeV_size (k := 2) (p := p) (v := []) hK)
  clear hf hf2 hpl hl2
  generalize textW (Nib.packed p false) = tp at *
  generalize Nib.packed p false = pk at *
  generalize EncEnd w (nodeText 2 p [] K) 0 = P at HP ⊢
  generalize nodeText 2 p [] K = S0 at *
  go_enter Tryd.func112, Tryd.ntmps112
  go_upto_region 1 with fail
  have SZ : (Tryd.prog.info? 91).map (·.size) = some (nodeV 2 p [] K).length := by rw [HSz.out]; exact info_node
  have F0 : Hid (Blk (w.alloc (.cells (nodeV 2 p [] K).toArray 91)) w.heap.size 91 (nodeV 2 p [] K).toArray ∧ Below w.heap.size w (w.alloc (.cells (nodeV 2 p [] K).toArray 91))) := Lib.hid ⟨Blk.new _ _ _, by go_grown⟩
  generalize w.alloc (.cells (nodeV 2 p [] K).toArray 91) = W0 at F0 ⊢
  have HB := Lib.hid (show w.heap.size < W0.heap.size from F0.out.1.lt)
  obtain ⟨_, _, _, _, RA⟩ := NodeAt.of (C := []) (by rw [List.append_nil]; exact F0.out.1)
  generalize hB : w.heap.size = B at *
  clear hB
  go_upto_region 2 with (first | (refine wpList_load_mid rfl 91 _ rfl B 0 rfl _ _ RA Tryd.underlying91 rfl SZ ?_) | (go_at_call 120; refine (HC _).mono ?_; rintro e w1 ⟨rfl, hb⟩))
  have F1 := Lib.hid (show Below B w w1 from F0.out.2.trans (hb.mono (Nat.le_of_lt HB.out)))
  have HB1 := Lib.hid (Nat.lt_of_lt_of_le HB.out hb.size)
  have BK1 := Lib.hid (F0.out.1.below hb HB.out)
  clear hb F0 RA HB
  obtain ⟨q0, q1, q2, RK, RA⟩ := NodeAt.of (C := []) (by rw [List.append_nil]; exact BK1.out)
  have cv := conv1 w1 2 (by omega) (by omega)
  go_upto_region 5 with fail
  have F2 : Hid (Blk (w1.alloc (.cells #[.int .u8 2] 5)) B 91 (nodeV 2 p [] K).toArray ∧ Below B w (w1.alloc (.cells #[.int .u8 2] 5)) ∧ B < (w1.alloc (.cells #[.int .u8 2] 5)).heap.size) := Lib.hid ⟨BK1.out.alloc _, F1.out.alloc (Nat.le_of_lt HB1.out) _, by have := HB1.out; simp; omega⟩
  clear cv q0 q1 q2 RK RA
  generalize w1.alloc (.cells #[.int .u8 2] 5) = w2 at F2 ⊢
  clear F1 HB1 BK1
  obtain ⟨q0, q1, q2, RK, _⟩ := NodeAt.of (C := []) (by rw [List.append_nil]; exact F2.out.1)
  go_upto_region 21 with (go_at_call 136; refine (HPk _ (by omega)).mono ?_; rintro e w3 ⟨rfl, hb⟩)
  have F3 : Hid (Blk w3 B 91 (nodeV 2 p [] K).toArray ∧ Below B w w3 ∧ B < w3.heap.size) := Lib.hid ⟨F2.out.1.below hb F2.out.2.2, F2.out.2.1.trans (hb.mono (Nat.le_of_lt F2.out.2.2)), Nat.lt_of_lt_of_le F2.out.2.2 hb.size⟩
  clear hb q0 q1 q2 RK
  obtain ⟨q0, q1, q2, RK, _⟩ := NodeAt.of (C := []) (by rw [List.append_nil]; exact F3.out.1)
  go_upto_region 22 with (go_at_call 99; refine (HT2 _).mono ?_; rintro e w4 ⟨rfl, hb⟩)
  have F4 : Hid (Blk w4 B 91 (nodeV 2 p [] K).toArray ∧ Below B w w4 ∧ B < w4.heap.size) := Lib.hid ⟨F3.out.1.below hb F3.out.2.2, F3.out.2.1.trans (hb.mono (Nat.le_of_lt F3.out.2.2)), Nat.lt_of_lt_of_le F3.out.2.2 hb.size⟩
  clear hb q0 q1 q2 RK
  obtain ⟨q0, q1, q2, RK, _⟩ := NodeAt.of (C := []) (by rw [List.append_nil]; exact F4.out.1)
  have q3 : w4.cell? ⟨B, 3, none⟩ = some (.string ⟨(K.getD 0 []).toArray⟩) := by
    have := RK 0 _ HK0.out
    rwa [HK1.out] at this
  clear HK0 HK1
  generalize K.getD 0 [] = s0 at *
  have hs1 : tp.length + s0.length ≤ 9223372036854775000 := by omega
  go_wp2
  exact HP.out _ _ HF.out F4.out.2.1

set_option maxRecDepth 100000 in
set_option maxHeartbeats 1000000 in
theorem encode_odd (k : Nat) (p v : List UInt8) (hp : p.length ≤ 1048576) (hv : v.length ≤ 9223372036854775000) (K : List (List UInt8)) (hK : K.length = 16) (hKs : ∀ s ∈ K, s.length ≤ 9223372036854775807) (hf : fineN k p v K = false) (w : World) :
    Calls Tryd.prog 112 #[.agg (nodeV k p v K).toArray] w (EncEnd w [] 80) := by
  have HP : Hid (∀ w', Below w.heap.size w w' → EncEnd w [] 80 (.returned (.tuple #[.string ⟨#[]⟩, .int .i64 80])) w') := Lib.hid (fun w' h2 => ⟨rfl, h2⟩)
  have HC := node_Check k p v hp hv K hK hKs
  rw [hf] at HC
  have HSz := Lib.hid (nodeV_size (k := k) (p := p) (v := v) hK)
  clear hf
  generalize EncEnd w [] 80 = P at HP ⊢
  go_enter Tryd.func112, Tryd.ntmps112
  go_upto_region 1 with fail
  have SZ : (Tryd.prog.info? 91).map (·.size) = some (nodeV k p v K).length := by rw [HSz.out]; exact info_node
  have F0 : Hid (Blk (w.alloc (.cells (nodeV k p v K).toArray 91)) w.heap.size 91 (nodeV k p v K).toArray ∧ Below w.heap.size w (w.alloc (.cells (nodeV k p v K).toArray 91))) := Lib.hid ⟨Blk.new _ _ _, by go_grown⟩
  generalize w.alloc (.cells (nodeV k p v K).toArray 91) = W0 at F0 ⊢
  have HB := Lib.hid (show w.heap.size < W0.heap.size from F0.out.1.lt)
  obtain ⟨_, _, _, _, RA⟩ := NodeAt.of (C := []) (by rw [List.append_nil]; exact F0.out.1)
  generalize hB : w.heap.size = B at *
  clear hB
  go_wp2_with (first | (refine wpList_load_mid rfl 91 _ rfl B 0 rfl _ _ RA Tryd.underlying91 rfl SZ ?_) | (go_at_call 120; refine (HC _).mono ?_; rintro e w1 ⟨rfl, hb⟩))
  exact HP.out _ (F0.out.2.trans (hb.mono (Nat.le_of_lt HB.out)))

theorem node_Encode (k : Nat) (p v : List UInt8) (K : List (List UInt8)) (hK : K.length = 16) (hKs : ∀ s ∈ K, s.length ≤ 9223372036854775807) (hf : fineN k p v K = true) (w : World) :
    Calls Tryd.prog 112 #[.agg (nodeV k p v K).toArray] w (EncEnd w (nodeText k p v K) 0) := by
  by_cases h1 : k = 1
  · subst h1; exact encode_leaf p v K hK hKs hf w
  · by_cases h2 : k = 2
    · subst h2; exact encode_ext p v K hK hKs hf w
    · by_cases h3 : k = 3
      · subst h3
        have hp : p = [] := by simp [fineN] at hf; exact hf.1.1.1
        subst hp
        exact encode_branch v K hK hKs hf w
      · simp [fineN, h1, h2, h3] at hf
end Go.Proofs.YtefcmigbdfeaiaaDoor

/- The walks of layer 8 (node): Digest. No conditions. -/
namespace Go.Proofs.YtefcmigbdfeaiaaDoor
set_option linter.unusedVariables false
open Go.RowKit Go.Instr
attribute [local go_sem] ba_get ByteArray.mk_append_mk

theorem fineN_parts {k : Nat} {p v : List UInt8} {K : List (List UInt8)} (h : fineN k p v K = true) : (k = 1 ∨ k = 2 ∨ k = 3) ∧ Nib.fit p = true ∧ p.length ≤ 16 ∧ v.length ≤ 32 ∧ sumsOk (kidsW K) = true := by
  unfold fineN at h
  split at h
  · rename_i hk
    simp [pathOk] at h
    obtain ⟨⟨⟨h1, h2⟩, h3⟩, h4⟩ := h
    refine ⟨.inl hk, h2.1, h2.2, h4, ?_⟩
    rw [h1]; rfl
  · split at h
    · rename_i _ hk
      simp only [pathOk, Bool.and_eq_true, decide_eq_true_eq] at h
      obtain ⟨⟨⟨h1, h2⟩, h3⟩, h4⟩ := h
      have h4' : v = [] := by simpa using h4
      refine ⟨.inr (.inl hk), h3.1, h3.2.2, by rw [h4']; simp, ?_⟩
      rw [h1]
      generalize K.getD 0 [] = s at *
      have h5 : s.length = 32 := by simpa [sumsOk] using h2
      have h6 : s.isEmpty = false := by cases s <;> simp_all
      simp [kidsW, sumsOk, h6, h5]
    · split at h
      · rename_i _ _ hk
        simp only [Bool.and_eq_true, decide_eq_true_eq] at h
        obtain ⟨⟨⟨h1, h2⟩, h3⟩, h4⟩ := h
        have h1' : p = [] := by simpa using h1
        subst h1'
        exact ⟨.inr (.inr hk), rfl, by simp, h4, h2⟩
      · cases h
theorem fine_ext {p v : List UInt8} {K : List (List UInt8)} (h : fineN 2 p v K = true) : (K.getD 0 []).length = 32 ∧ K = K.getD 0 [] :: List.replicate 15 [] := by
  unfold fineN at h
  rw [if_neg (by omega), if_pos rfl] at h
  simp only [Bool.and_eq_true, decide_eq_true_eq] at h
  obtain ⟨⟨⟨h1, h2⟩, h3⟩, h4⟩ := h
  refine ⟨?_, h1⟩
  clear h1
  generalize K.getD 0 [] = s at *
  simpa [sumsOk] using h2
theorem nodeText_len {k : Nat} {p v : List UInt8} {K : List (List UInt8)} (hK : K.length = 16) (h : fineN k p v K = true) : (nodeText k p v K).length ≤ 700 := by
  obtain ⟨h1, h2, h3, h4, h5⟩ := fineN_parts h
  have hl1 := textW_len v (by omega)
  have hl2 := textW_len (Nib.packed p (decide (k = 1))) (by rw [Nib.packed_length]; omega)
  rw [Nib.packed_length] at hl2
  have hf := flatten_len _ (kidsW_32 h5)
  have hk16 : (kidsW K).length ≤ 16 := by
    have := List.length_filter_le (fun s : List UInt8 => !s.isEmpty) K
    unfold kidsW; omega
  have := Nat.mul_le_mul_right 32 hk16
  unfold nodeText
  split
  · simp only [List.length_cons, List.length_append]; omega
  · rename_i hk3
    simp only [List.length_cons, List.length_append]
    split
    · omega
    · rename_i hk1
      have hk2 : k = 2 := by omega
      subst hk2
      have := (fine_ext h).1
      omega
/-- a node's sum -/
def nodeSum (k : Nat) (p v : List UInt8) (K : List (List UInt8)) : List UInt8 := shaW (1 :: nodeText k p v K)
def DigEnd (w : World) (s : List UInt8) (e : Ending) (w' : World) : Prop := e = .returned (.string ⟨s.toArray⟩) ∧ Below w.heap.size w w'
set_option maxRecDepth 100000 in
set_option maxHeartbeats 1000000 in
theorem node_Digest (k : Nat) (p v : List UInt8) (K : List (List UInt8)) (hK : K.length = 16) (hKs : ∀ s ∈ K, s.length ≤ 9223372036854775807) (hf : fineN k p v K = true) (w : World) (hT : Tbl w) :
    Calls Tryd.prog 113 #[.agg (nodeV k p v K).toArray] w (DigEnd w (nodeSum k p v K)) := by
  have HP : Hid (∀ w', Below w.heap.size w w' → DigEnd w (nodeSum k p v K) (.returned (.string ⟨(nodeSum k p v K).toArray⟩)) w') := Lib.hid (fun w' h2 => ⟨rfl, h2⟩)
  have HC := node_Encode k p v K hK hKs hf
  have hl := nodeText_len hK hf
  have HD : ∀ w, Tbl w → Calls Tryd.prog 89 #[.int .i64 1, .string ⟨(nodeText k p v K).toArray⟩] w fun e w' => e = .returned (.tuple #[.string ⟨(nodeSum k p v K).toArray⟩, .int .i64 0]) ∧ Below w.heap.size w w' := fun w h => digest_Sum w 1 (by omega) (by omega) _ (by omega) h
  have HSz := Lib.hid (nodeV_size (k := k) (p := p) (v := v) hK)
  clear hf
  generalize DigEnd w (nodeSum k p v K) = P at HP ⊢
  generalize nodeSum k p v K = S at *
  generalize nodeText k p v K = T at *
  have HTb := Lib.hid hT
  clear hT
  go_enter Tryd.func113, Tryd.ntmps113
  go_upto_region 1 with fail
  have SZ : (Tryd.prog.info? 91).map (·.size) = some (nodeV k p v K).length := by rw [HSz.out]; exact info_node
  have F0 : Hid (Blk (w.alloc (.cells (nodeV k p v K).toArray 91)) w.heap.size 91 (nodeV k p v K).toArray ∧ Below w.heap.size w (w.alloc (.cells (nodeV k p v K).toArray 91))) := Lib.hid ⟨Blk.new _ _ _, by go_grown⟩
  generalize w.alloc (.cells (nodeV k p v K).toArray 91) = W0 at F0 ⊢
  have HB := Lib.hid (show w.heap.size < W0.heap.size from F0.out.1.lt)
  obtain ⟨_, _, _, _, RA⟩ := NodeAt.of (C := []) (by rw [List.append_nil]; exact F0.out.1)
  have HT0 : Hid (Tbl W0) := Lib.hid (HTb.out.next F0.out.2)
  generalize hB : w.heap.size = B at *
  clear hB
  go_upto_region 2 with (first | (refine wpList_load_mid rfl 91 _ rfl B 0 rfl _ _ RA Tryd.underlying91 rfl SZ ?_) | (go_at_call 112; refine (HC _).mono ?_; rintro e w1 ⟨rfl, hb⟩))
  have F1 := Lib.hid (show Below B w w1 from F0.out.2.trans (hb.mono (Nat.le_of_lt HB.out)))
  have HB1 := Lib.hid (Nat.lt_of_lt_of_le HB.out hb.size)
  have HT1 : Hid (Tbl w1) := Lib.hid (HT0.out.next hb)
  clear hb RA
  go_wp2_with (go_at_call 89; refine (HD _ HT1.out).mono ?_; rintro e w2 ⟨rfl, hb⟩)
  exact HP.out _ (F1.out.trans (hb.mono (Nat.le_of_lt HB1.out)))
end Go.Proofs.YtefcmigbdfeaiaaDoor

/- Plain functions and laws for layer 10 (trie): what the code computes, in Lean, with no program in sight. No conditions. -/
namespace Go.Proofs.YtefcmigbdfeaiaaDoor
namespace Trie
open Nib

/-- a trie's knots; 'nil': none -/
inductive T where
  | nil
  | leaf (p v : List UInt8)
  | ext (p : List UInt8) (t : T)
  | branch (v : List UInt8) (kids : Fin 16 → T)

def isNil : T → Bool
  | .nil => true
  | _ => false
def isBranch : T → Bool
  | .branch _ _ => true
  | _ => false
def ix (b : UInt8) : Fin 16 := ⟨b.toNat % 16, Nat.mod_lt _ (by omega)⟩
def setKid (kids : Fin 16 → T) (b : UInt8) (t : T) : Fin 16 → T := fun i => if i = ix b then t else kids i
def noKids : Fin 16 → T := fun _ => .nil

/-- the value of a path; []: there is none -/
def look : T → List UInt8 → List UInt8
  | .nil, _ => []
  | .leaf p v, q => if q = p then v else []
  | .ext p t, q => if common p q = p.length then look t (q.drop p.length) else []
  | .branch v kids, q => match q with
    | [] => v
    | b :: r => look (kids (ix b)) r

def joined (path : List UInt8) (t : T) : T :=
  if path = [] then t else match t with
    | .leaf p v => .leaf (path ++ p) v
    | .ext p s => .ext (path ++ p) s
    | t => .ext path t

/-- one thing of a branch to be: what stands at a path, f below its first half byte -/
def oneOwn (old : List UInt8) (w : List UInt8) : List UInt8 := match old with
  | [] => w
  | _ :: _ => []
def oneKids (old : List UInt8) (f : List UInt8 → T) : Fin 16 → T := match old with
  | [] => noKids
  | b :: r => setKid noKids b (f r)
def partedG (old : List UInt8) (f : List UInt8 → T) (w path v : List UInt8) : T := match path with
  | [] => .branch v (oneKids old f)
  | b :: r => .branch (oneOwn old w) (setKid (oneKids old f) b (.leaf r v))
/-- a branch of what a leaf or an extension has behind some half bytes, and of an item -/
def parted (t : T) (c : Nat) (path v : List UInt8) : T := match t with
  | .leaf p w => partedG (p.drop c) (fun r => .leaf r w) w path v
  | .ext p s => partedG (p.drop c) (fun r => joined r s) [] path v
  | t => t

def put : T → List UInt8 → List UInt8 → T
  | .nil, q, v => .leaf q v
  | .branch w kids, q, v => match q with
    | [] => .branch v kids
    | b :: r => .branch w (setKid kids b (put (kids (ix b)) r v))
  | .ext p t, q, v => if common p q = p.length then joined p (put t (q.drop (common p q)) v) else joined (q.take (common p q)) (parted (.ext p t) (common p q) (q.drop (common p q)) v)
  | .leaf p w, q, v => if common p q = p.length ∧ common p q = q.length then .leaf q v else joined (q.take (common p q)) (parted (.leaf p w) (common p q) (q.drop (common p q)) v)

def many (kids : Fin 16 → T) : Nat := ((List.finRange 16).filter fun i => !isNil (kids i)).length
def lastKid (kids : Fin 16 → T) : Fin 16 := (((List.finRange 16).filter fun i => !isNil (kids i)).getLast?).getD 0
/-- a branch that lost something -/
def shrunk (v : List UInt8) (kids : Fin 16 → T) : T :=
  if many kids = 0 then .leaf [] v
  else if many kids = 1 ∧ v = [] then joined [UInt8.ofNat (lastKid kids).val] (kids (lastKid kids))
  else .branch v kids
def del : T → List UInt8 → T
  | .nil, _ => .nil
  | .leaf _ _, _ => .nil
  | .ext p t, q => joined p (del t (q.drop p.length))
  | .branch v kids, q => match q with
    | [] => shrunk [] kids
    | b :: r => shrunk v (setKid kids b (del (kids (ix b)) r))

def wf : T → Prop
  | .nil => True
  | .leaf p v => fit p = true ∧ v ≠ []
  | .ext p t => fit p = true ∧ p ≠ [] ∧ isBranch t = true ∧ wf t
  | .branch v kids => (∀ i, wf (kids i)) ∧ 2 ≤ many kids + (if v = [] then 0 else 1)

theorem fit_nil : fit [] = true := rfl
theorem fit_append {a b : List UInt8} : fit (a ++ b) = true ↔ fit a = true ∧ fit b = true := by
  unfold fit; rw [List.all_append, Bool.and_eq_true]
theorem fit_cons' {a : UInt8} {r : List UInt8} : fit (a :: r) = true ↔ a ≤ 15 ∧ fit r = true := by
  unfold fit; simp
theorem fit_drop {a : List UInt8} (n : Nat) (h : fit a = true) : fit (a.drop n) = true := by
  have : fit (a.take n ++ a.drop n) = true := by rw [List.take_append_drop]; exact h
  exact (fit_append.1 this).2
theorem fit_take {a : List UInt8} (n : Nat) (h : fit a = true) : fit (a.take n) = true := by
  have : fit (a.take n ++ a.drop n) = true := by rw [List.take_append_drop]; exact h
  exact (fit_append.1 this).1
theorem ix_of (i : Fin 16) : ix (UInt8.ofNat i.val) = i ∧ UInt8.ofNat i.val ≤ 15 := by
  have := i.isLt
  constructor
  · apply Fin.ext; simp [ix]
  · rw [UInt8.le_iff_toNat_le]; simp; omega
theorem ix_inj {a b : UInt8} (ha : a ≤ 15) (hb : b ≤ 15) (h : ix a = ix b) : a = b := by
  rw [UInt8.le_iff_toNat_le] at ha hb
  simp at ha hb
  have := congrArg Fin.val h
  simp [ix] at this
  exact UInt8.toNat_inj.1 (by omega)
theorem prefix_common {p q : List UInt8} : common p q = p.length ↔ q = p ++ q.drop p.length := by
  constructor
  · intro h
    have h1 := (common_take p q p.length).1 (by omega)
    conv => lhs; rw [← List.take_append_drop p.length q, ← h1.2.2]
    simp
  · intro h
    have hcl := common_le p q
    have : p.length ≤ common p q := by
      rw [common_take]
      refine ⟨Nat.le_refl _, ?_, ?_⟩
      · rw [h]; simp
      · rw [h]; simp
    omega
theorem common_self_append (p r : List UInt8) : common p (p ++ r) = p.length := prefix_common.2 (by simp)

theorem many_two {kids : Fin 16 → T} {v : List UInt8} (h : 2 ≤ many kids + (if v = [] then 0 else 1)) (b : UInt8) : v ≠ [] ∨ ∃ i, i ≠ ix b ∧ isNil (kids i) = false := by
  by_cases hv : v = []
  · right
    rw [if_pos hv] at h
    unfold many at h
    have hn : ((List.finRange 16).filter fun i => !isNil (kids i)).Nodup := (List.nodup_finRange 16).sublist List.filter_sublist
    generalize hl : ((List.finRange 16).filter fun i => !isNil (kids i)) = l at *
    have hmem : ∀ i ∈ l, isNil (kids i) = false := by
      intro i hi
      rw [← hl, List.mem_filter] at hi
      simpa using hi.2
    match l, h, hn with
    | x :: y :: l, _, hn =>
      by_cases hx : x = ix b
      · refine ⟨y, fun e => ?_, hmem y (by simp)⟩
        rw [List.nodup_cons] at hn
        exact hn.1 (by rw [hx, ← e]; simp)
      · exact ⟨x, hx, hmem x (by simp)⟩
  · exact .inl hv

/-- where there is a knot there is an item -/
theorem look_some (t : T) : wf t → isNil t = false → ∃ q, fit q = true ∧ look t q ≠ [] := by
  induction t with
  | nil => intro _ h; simp [isNil] at h
  | leaf p v => intro h _; exact ⟨p, h.1, by simp [look]; exact h.2⟩
  | ext p t ih =>
    intro h _
    obtain ⟨h1, h2, h3, h4⟩ := h
    obtain ⟨q, g1, g2⟩ := ih h4 (by cases t <;> simp_all [isBranch, isNil])
    refine ⟨p ++ q, fit_append.2 ⟨h1, g1⟩, ?_⟩
    simp only [look, common_self_append, if_pos]
    simpa using g2
  | branch v kids ih =>
    intro h _
    rcases many_two h.2 0 with hv | ⟨i, _, hi⟩
    · exact ⟨[], rfl, hv⟩
    · obtain ⟨q, g1, g2⟩ := ih i (h.1 i) hi
      obtain ⟨e1, e2⟩ := ix_of i
      exact ⟨UInt8.ofNat i.val :: q, fit_cons'.2 ⟨e2, g1⟩, by simp only [look, e1]; exact g2⟩
/-- the items of a branch do not all go on alike -/
theorem look_apart (v : List UInt8) (kids : Fin 16 → T) (h : wf (.branch v kids)) (b : UInt8) : ∃ q, fit q = true ∧ look (.branch v kids) q ≠ [] ∧ ∀ r, q ≠ b :: r := by
  rcases many_two h.2 b with hv | ⟨i, hne, hi⟩
  · exact ⟨[], rfl, hv, by intro r; simp⟩
  · obtain ⟨q, g1, g2⟩ := look_some (kids i) (h.1 i) hi
    obtain ⟨e1, e2⟩ := ix_of i
    refine ⟨UInt8.ofNat i.val :: q, fit_cons'.2 ⟨e2, g1⟩, by simp only [look, e1]; exact g2, ?_⟩
    intro r e
    injection e with e3 _
    exact hne (by rw [← e1, e3])
theorem branch_of {t : T} (h : isBranch t = true) : ∃ v kids, t = .branch v kids := by
  cases t with
  | branch v kids => exact ⟨v, kids, rfl⟩
  | nil => simp [isBranch] at h
  | leaf _ _ => simp [isBranch] at h
  | ext _ _ => simp [isBranch] at h
theorem look_ext_some {p : List UInt8} {t : T} {q : List UInt8} (h : look (.ext p t) q ≠ []) : q = p ++ q.drop p.length ∧ look t (q.drop p.length) ≠ [] := by
  simp only [look] at h
  split at h
  · rename_i hc; exact ⟨prefix_common.1 hc, h⟩
  · exact absurd rfl h
theorem look_ext (p : List UInt8) (t : T) (r : List UInt8) : look (.ext p t) (p ++ r) = look t r := by
  simp [look, common_self_append]
/-- an extension's path cannot be longer: what is below it parts -/
theorem ext_longer {p s : List UInt8} {t t' : T} (hp : fit p = true) (hs : s ≠ []) (h : wf t) (hb : isBranch t = true) (he : ∀ q, fit q = true → look (.ext p t) q = look (.ext (p ++ s) t') q) : False := by
  obtain ⟨v, kids, rfl⟩ := branch_of hb
  obtain ⟨b, s', rfl⟩ : ∃ b s', s = b :: s' := by
    cases s with
    | nil => exact absurd rfl hs
    | cons b s' => exact ⟨b, s', rfl⟩
  obtain ⟨q, g1, g2, g3⟩ := look_apart v kids h b
  have h1 := he (p ++ q) (fit_append.2 ⟨hp, g1⟩)
  rw [look_ext] at h1
  have h2 := (look_ext_some (show look (.ext (p ++ b :: s') t') (p ++ q) ≠ [] by rw [← h1]; exact g2)).1
  have h3 : q = b :: (s' ++ (p ++ q).drop (p ++ b :: s').length) := by
    have := List.append_cancel_left (show p ++ q = p ++ (b :: (s' ++ (p ++ q).drop (p ++ b :: s').length)) by
      rw [List.append_assoc] at h2; simpa using h2)
    exact this
  exact g3 _ h3

/-- ONE TRIE: what says the same of every path is the same. -/
theorem unique (a : T) : ∀ b, wf a → wf b → (∀ q, fit q = true → look a q = look b q) → a = b := by
  have leafTwo : ∀ (p v : List UInt8) (t : T), wf t → isBranch t = true → ∀ x : List UInt8, fit x = true → (∀ q, fit q = true → look (.leaf p v) (x ++ q) = look t q) → False := by
    intro p v t ht hb x hx he
    obtain ⟨w, kids, rfl⟩ := branch_of hb
    obtain ⟨q0, f0, g0⟩ := look_some _ ht (by simp [isNil])
    have e0 : x ++ q0 = p := by
      have := he q0 f0
      simp only [look] at this
      split at this
      · assumption
      · exact absurd this.symm g0
    cases q0 with
    | nil =>
      -- the empty path is an item: then there is a kid
      have hk : ∃ i, isNil (kids i) = false := by
        rcases Nat.eq_zero_or_pos (many kids) with hz | hz
        · have h2 := ht.2
          rw [hz] at h2
          split at h2 <;> omega
        · unfold many at hz
          obtain ⟨i, hi⟩ := List.exists_mem_of_length_pos hz
          exact ⟨i, by simpa using (List.mem_filter.1 hi).2⟩
      obtain ⟨i, hi⟩ := hk
      obtain ⟨q, g1, g2⟩ := look_some (kids i) (ht.1 i) hi
      obtain ⟨e1, e2⟩ := ix_of i
      have := he (UInt8.ofNat i.val :: q) (fit_cons'.2 ⟨e2, g1⟩)
      simp only [look] at this
      rw [e1] at this
      split at this
      · rename_i h5
        rw [← e0] at h5
        have := List.append_cancel_left h5
        simp at this
      · exact g2 this.symm
    | cons b r =>
      obtain ⟨q, g1, g2, g3⟩ := look_apart w kids ht b
      have := he q g1
      simp only [look] at this
      split at this
      · rename_i h5
        rw [← e0] at h5
        exact g3 r (List.append_cancel_left h5)
      · exact g2 this.symm
  have nilNot : ∀ t : T, wf t → (∀ q, fit q = true → [] = look t q) → t = .nil := by
    intro t ht he
    cases hn : isNil t with
    | true => cases t <;> simp_all [isNil]
    | false =>
      obtain ⟨q, g1, g2⟩ := look_some t ht hn
      exact absurd (he q g1).symm g2
  induction a with
  | nil => intro b _ hb he; exact (nilNot b hb he).symm
  | leaf p v =>
    intro b ha hb he
    cases b with
    | nil => exact nilNot _ ha (fun q hq => (he q hq).symm)
    | leaf p' v' =>
      have h1 := he p ha.1
      simp only [look, if_true] at h1
      split at h1
      · rename_i e; rw [e, h1]
      · exact absurd h1 ha.2
    | ext p' t' =>
      obtain ⟨h1, h2, h3, h4⟩ := hb
      exact (leafTwo p v t' h4 h3 p' h1 (fun q hq => by rw [he _ (fit_append.2 ⟨h1, hq⟩), look_ext])).elim
    | branch v' kids' => exact (leafTwo p v _ hb rfl [] rfl (fun q hq => he q hq)).elim
  | ext p t ih =>
    intro b ha hb he
    obtain ⟨h1, h2, h3, h4⟩ := ha
    cases b with
    | nil => exact nilNot _ ⟨h1, h2, h3, h4⟩ (fun q hq => (he q hq).symm)
    | leaf p' v' => exact (leafTwo p' v' t h4 h3 p h1 (fun q hq => by rw [← he _ (fit_append.2 ⟨h1, hq⟩), look_ext])).elim
    | ext p' t' =>
      obtain ⟨k1, k2, k3, k4⟩ := hb
      obtain ⟨v0, kids0, e0⟩ := branch_of h3
      obtain ⟨q, g1, g2⟩ := look_some t h4 (by rw [e0]; rfl)
      have e1 := he (p ++ q) (fit_append.2 ⟨h1, g1⟩)
      rw [look_ext] at e1
      have e2 := (look_ext_some (show look (.ext p' t') (p ++ q) ≠ [] by rw [← e1]; exact g2)).1
      have hpp : p = p' := by
        rcases Nat.lt_trichotomy p.length p'.length with hl | hl | hl
        · exfalso
          have e3 : p' = p ++ p'.drop p.length := by
            have := congrArg (List.take p.length) e2
            rw [List.take_append_of_le_length (Nat.le_refl _), List.take_length, List.take_append_of_le_length (by omega)] at this
            conv => lhs; rw [← List.take_append_drop p.length p', ← this]
          rw [e3] at he
          exact ext_longer h1 (fun e => by have := congrArg List.length e; simp at this; omega) h4 h3 he
        · have := congrArg (List.take p.length) e2
          rw [List.take_append_of_le_length (Nat.le_refl _), List.take_length, List.take_append_of_le_length (by omega), hl, List.take_length] at this
          exact this
        · exfalso
          have e3 : p = p' ++ p.drop p'.length := by
            have := congrArg (List.take p'.length) e2
            rw [List.take_append_of_le_length (by omega), List.take_append_of_le_length (Nat.le_refl _), List.take_length] at this
            conv => lhs; rw [← List.take_append_drop p'.length p, this]
          have he' : ∀ q, fit q = true → look (.ext p' t') q = look (.ext (p' ++ p.drop p'.length) t) q := by
            intro q hq; rw [← e3]; exact (he q hq).symm
          exact ext_longer k1 (fun e => by have := congrArg List.length e; simp at this; omega) k4 k3 he'
      subst hpp
      rw [ih t' h4 k4 (fun q hq => by have := he (p ++ q) (fit_append.2 ⟨h1, hq⟩); rwa [look_ext, look_ext] at this)]
    | branch v' kids' =>
      obtain ⟨b, s, rfl⟩ : ∃ b s, p = b :: s := by
        cases p with
        | nil => exact absurd rfl h2
        | cons b s => exact ⟨b, s, rfl⟩
      obtain ⟨q, g1, g2, g3⟩ := look_apart v' kids' hb b
      have := (look_ext_some (show look (.ext (b :: s) t) q ≠ [] by rw [he q g1]; exact g2)).1
      exact (g3 _ (by simpa using this)).elim
  | branch v kids ih =>
    intro b ha hb he
    cases b with
    | nil => exact nilNot _ ha (fun q hq => (he q hq).symm)
    | leaf p' v' => exact (leafTwo p' v' _ ha rfl [] rfl (fun q hq => (he q hq).symm)).elim
    | ext p' t' =>
      obtain ⟨k1, k2, k3, k4⟩ := hb
      obtain ⟨b, s, rfl⟩ : ∃ b s, p' = b :: s := by
        cases p' with
        | nil => exact absurd rfl k2
        | cons b s => exact ⟨b, s, rfl⟩
      obtain ⟨q, g1, g2, g3⟩ := look_apart v kids ha b
      have := (look_ext_some (show look (.ext (b :: s) t') q ≠ [] by rw [← he q g1]; exact g2)).1
      exact (g3 _ (by simpa using this)).elim
    | branch v' kids' =>
      have hv : v = v' := he [] rfl
      have hk : kids = kids' := by
        funext i
        obtain ⟨e1, e2⟩ := ix_of i
        exact ih i (kids' i) (ha.1 i) (hb.1 i) (fun q hq => by
          have := he (UInt8.ofNat i.val :: q) (fit_cons'.2 ⟨e2, hq⟩)
          simpa only [look, e1] using this)
      rw [hv, hk]
end Trie
end Go.Proofs.YtefcmigbdfeaiaaDoor
