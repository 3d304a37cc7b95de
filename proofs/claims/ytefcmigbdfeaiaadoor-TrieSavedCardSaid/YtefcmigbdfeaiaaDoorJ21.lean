import Derived.Test.YtefcmigbdfeaiaaDoorJ20
import Derived.Deep.RegionHeld3
import Derived.Deep.QuietTactic
import Derived.BigQuiet
import Derived.Test.YtefcmigbdfeaiaaDoorJ09
import Derived.StillTailTactics
import Derived.Deep.RegionLaw
import Derived.Deep.DeepCutAuto
import Derived.Deep.DrawnRows
set_option linter.unusedSimpArgs false
set_option linter.unusedVariables false
namespace Go.Proofs.YtefcmigbdfeaiaaDoor
set_option linter.unusedVariables false
open Go.RowKit Go.Instr
attribute [local go_sem] ba_get ByteArray.mk_append_mk
theorem KnotP.ptr {w : World} {t : Trie.T} {x : Value} (h : KnotP w t x) (hn : t ≠ .nil) : ∃ b, x = .pointer (some ⟨b, 0, none⟩) := by
  rcases h.form with ⟨h1, _⟩ | ⟨b, _, _, h2, _⟩
  · exact absurd h1 hn
  · exact ⟨b, h2⟩
theorem KnotEnd.base {w W : World} {t : Trie.T} {e : Ending} {w' : World} (hb : Below w.heap.size w W) (h : KnotEnd W t e w') : KnotEnd w t e w' := by
  obtain ⟨x, h1, h2, h3⟩ := h
  exact ⟨x, h1, h2, hb.nxt h3⟩
theorem knot_base {f : FuncId} {args : Array Value} {w : World} {t : Trie.T} (h : ∀ W, Below w.heap.size w W → Calls Tryd.prog f args W (KnotEnd W t)) : ∀ W, Below w.heap.size w W → Calls Tryd.prog f args W (KnotEnd w t) :=
  fun W hW => (h W hW).mono (fun e w' he => he.base hW)
theorem rep_getD {α : Type} (n i : Nat) (a d : α) (h : i < n) : (List.replicate n a).getD i d = a := by simp [List.getD_eq_getElem?_getD, h]
set_option maxRecDepth 100000 in
theorem trie_leaf (p v : List UInt8) (hw : Trie.wf (.leaf p v)) (hs : Trie.small (.leaf p v)) (w : World) (hT : Tbl w) :
    Calls Tryd.prog 104 #[.string ⟨p.toArray⟩, .string ⟨v.toArray⟩] w (KnotEnd w (.leaf p v)) := by
  have HP : Hid (∀ x w', KnotP w' (.leaf p v) x → Below w.heap.size w w' → KnotEnd w (.leaf p v) (.returned x) w') := Lib.hid (fun x w' h1 h2 => ⟨x, rfl, h1, h2⟩)
  have HTied : Calls Tryd.prog 93 #[.agg #[.int .i64 1, .string ⟨p.toArray⟩, .string ⟨v.toArray⟩, .string ⟨#[]⟩, .string ⟨#[]⟩, .string ⟨#[]⟩, .string ⟨#[]⟩, .string ⟨#[]⟩, .string ⟨#[]⟩, .string ⟨#[]⟩, .string ⟨#[]⟩, .string ⟨#[]⟩, .string ⟨#[]⟩, .string ⟨#[]⟩, .string ⟨#[]⟩, .string ⟨#[]⟩, .string ⟨#[]⟩, .string ⟨#[]⟩, .string ⟨#[]⟩], .agg #[.pointer none, .pointer none, .pointer none, .pointer none, .pointer none, .pointer none, .pointer none, .pointer none, .pointer none, .pointer none, .pointer none, .pointer none, .pointer none, .pointer none, .pointer none, .pointer none]] w (KnotEnd w (.leaf p v)) :=
    trie_tied (.leaf p v) (by simp) hw hs (by simp [Trie.count]) (List.replicate 16 []) rfl (fun i _ => rep_getD _ _ _ _ i.isLt) (List.replicate 16 (.pointer none)) rfl w hT (fun i => by rw [rep_getD _ _ _ _ i.isLt]; exact .nil)
  generalize KnotEnd w (.leaf p v) = P at HP ⊢
  clear hw hs hT
  go_enter Tryd.func104, Tryd.ntmps104
  go_wp2_with (go_at_call 93; refine HTied.mono ?_; rintro e w1 ⟨x, rfl, hk, hb⟩)
  exact HP.out _ _ hk hb
set_option maxRecDepth 100000 in
theorem trie_branch (v : List UInt8) (kids : Fin 16 → Trie.T) (hw : Trie.wf (.branch v kids)) (hs : Trie.small (.branch v kids)) (hc : Trie.count (.branch v kids) ≤ 1000000) (ps : List Value) (hps : ps.length = 16) (w : World) (hT : Tbl w)
    (hk : ∀ i : Fin 16, KnotP w (kids i) (ps.getD i.val undef)) :
    Calls Tryd.prog 105 #[.string ⟨v.toArray⟩, .agg ps.toArray] w (KnotEnd w (.branch v kids)) := by
  have HP : Hid (∀ x w', KnotP w' (.branch v kids) x → Below w.heap.size w w' → KnotEnd w (.branch v kids) (.returned x) w') := Lib.hid (fun x w' h1 h2 => ⟨x, rfl, h1, h2⟩)
  have HTied : ∀ W, Below w.heap.size w W → Calls Tryd.prog 93 #[.agg #[.int .i64 3, .string ⟨#[]⟩, .string ⟨v.toArray⟩, .string ⟨#[]⟩, .string ⟨#[]⟩, .string ⟨#[]⟩, .string ⟨#[]⟩, .string ⟨#[]⟩, .string ⟨#[]⟩, .string ⟨#[]⟩, .string ⟨#[]⟩, .string ⟨#[]⟩, .string ⟨#[]⟩, .string ⟨#[]⟩, .string ⟨#[]⟩, .string ⟨#[]⟩, .string ⟨#[]⟩, .string ⟨#[]⟩, .string ⟨#[]⟩], .agg ps.toArray] W (KnotEnd w (.branch v kids)) :=
    knot_base fun W hW => trie_tied (.branch v kids) (by simp) hw hs hc (List.replicate 16 []) rfl (fun i _ => rep_getD _ _ _ _ i.isLt) ps hps W (hT.next hW) (fun i => (hk i).next hW)
  have Hps := Lib.hid hps
  generalize KnotEnd w (.branch v kids) = P at HP ⊢
  have HTd := Lib.hid HTied
  clear hw hs hT HTied hk hps hc
  go_enter Tryd.func105, Tryd.ntmps105
  go_upto_region 1 with fail
  have SZP : (Tryd.prog.info? 99).map (·.size) = some ps.length := by rw [Hps.out]; exact info_ptrs
  have F0 : Hid (Blk (w.alloc (.cells ps.toArray 99)) w.heap.size 99 ps.toArray ∧ Below w.heap.size w (w.alloc (.cells ps.toArray 99))) := Lib.hid ⟨Blk.new _ _ _, by go_grown⟩
  generalize w.alloc (.cells ps.toArray 99) = W0 at F0 ⊢
  have RP := F0.out.1.range
  go_wp2_with (first | (refine wpList_load_mid rfl 99 _ rfl w.heap.size 0 rfl _ _ RP Tryd.underlying99 rfl SZP ?_) | (go_at_call 93; refine (HTd.out W0 F0.out.2).mono ?_; rintro e w1 ⟨x, rfl, hk, hb⟩))
  exact HP.out _ _ hk hb
theorem joined_nil (t : Trie.T) (x : Value) (w : World) (hk : KnotP w t x) :
    Calls Tryd.prog 106 #[.string ⟨#[]⟩, x] w (KnotEnd w t) := by
  have HP : Hid (∀ w', w = w' → KnotEnd w t (.returned x) w') := Lib.hid (fun w' h => by subst h; exact ⟨x, rfl, hk, Below.refl _ _⟩)
  generalize KnotEnd w t = P at HP ⊢
  clear hk
  go_enter Tryd.func106, Tryd.ntmps106
  go_wp2
  exact HP.out _ rfl
set_option maxRecDepth 100000 in
set_option maxHeartbeats 1000000 in
theorem joined_leaf (path p v : List UInt8) (hp : path ≠ []) (hw : Trie.wf (.leaf (path ++ p) v)) (hs : Trie.small (.leaf (path ++ p) v)) (b : Nat) (ps : List Value) (hps : ps.length = 16) (w : World) (hT : Tbl w)
    (hbk : Blk w b 101 (knotC (.leaf p v) ps).toArray) :
    Calls Tryd.prog 106 #[.string ⟨path.toArray⟩, .pointer (some ⟨b, 0, none⟩)] w (KnotEnd w (.leaf (path ++ p) v)) := by
  have HP : Hid (∀ x w', KnotP w' (.leaf (path ++ p) v) x → Below w.heap.size w w' → KnotEnd w (.leaf (path ++ p) v) (.returned x) w') := Lib.hid (fun x w' h1 h2 => ⟨x, rfl, h1, h2⟩)
  have hl := (hs _ hw.1 (by simp [Trie.look]; exact hw.2)).1
  rw [List.length_append] at hl
  have HTd : Hid (∀ W, Below w.heap.size w W → Calls Tryd.prog 104 #[.string ⟨(path ++ p).toArray⟩, .string ⟨v.toArray⟩] W (KnotEnd w (.leaf (path ++ p) v))) :=
    Lib.hid (knot_base fun W hW => trie_leaf (path ++ p) v hw hs W (hT.next hW))
  obtain ⟨⟨c0, c1, c2, _, _⟩, _, _, _, _, _⟩ := KnotAt.of (Trie.sumsT_length _) hps hbk
  rename_i j1 j2 j3 j4 j5 j6 j7
  replace c0 : w.cell? ⟨b, 0, none⟩ = some (.int .i64 1) := c0
  replace c1 : w.cell? ⟨b, 1, none⟩ = some (.string ⟨p.toArray⟩) := c1
  replace c2 : w.cell? ⟨b, 2, none⟩ = some (.string ⟨v.toArray⟩) := c2
  have ne1 : (path.toArray = #[]) = False := by simp [hp]
  have ne2 : path.isEmpty = false := by cases path <;> simp_all
  have hsum : path.length + p.length ≤ 9223372036854775000 := by omega
  have hnl : (9223372036854775807 < path.length + p.length) = False := by simp; omega
  have HBl := Lib.hid hbk.lt
  generalize KnotEnd w (.leaf (path ++ p) v) = P at HP ⊢
  clear hw hs hT hbk hps hp hl j1 j2 j3 j4 j5 j6 j7
  go_enter Tryd.func106, Tryd.ntmps106
  go_wp2
  go_region_held3 (fun w' => w'.cell? ⟨b, 1, none⟩ = some (.string ⟨p.toArray⟩) ∧ w'.cell? ⟨b, 2, none⟩ = some (.string ⟨v.toArray⟩)) (first | go_keep | (constructor <;> assumption)) (first | (go_at_call 104; refine (HTd.out _ (by first | exact Below.refl _ _ | exact (Below.refl _ _).drew)).mono ?_; rintro e w1 ⟨x, rfl, hk, hb⟩; have d1 := (hb.cell (p := ⟨b, 1, none⟩) HBl.out).trans c1; have d2 := (hb.cell (p := ⟨b, 2, none⟩) HBl.out).trans c2))
  go_wp2
  exact HP.out _ _ hk hb
theorem tied_ext (path : List UInt8) (t : Trie.T) (hw : Trie.wf (.ext path t)) (hs : Trie.small (.ext path t)) (hc : Trie.count t ≤ 1000000) (x : Value) (w : World) (hT : Tbl w) (hk : KnotP w t x) :
    ∀ W, Below w.heap.size w W → Calls Tryd.prog 93 #[.agg #[.int .i64 2, .string ⟨path.toArray⟩, .string ⟨#[]⟩, .string ⟨#[]⟩, .string ⟨#[]⟩, .string ⟨#[]⟩, .string ⟨#[]⟩, .string ⟨#[]⟩, .string ⟨#[]⟩, .string ⟨#[]⟩, .string ⟨#[]⟩, .string ⟨#[]⟩, .string ⟨#[]⟩, .string ⟨#[]⟩, .string ⟨#[]⟩, .string ⟨#[]⟩, .string ⟨#[]⟩, .string ⟨#[]⟩, .string ⟨#[]⟩], .agg #[x, .pointer none, .pointer none, .pointer none, .pointer none, .pointer none, .pointer none, .pointer none, .pointer none, .pointer none, .pointer none, .pointer none, .pointer none, .pointer none, .pointer none, .pointer none]] W (KnotEnd w (.ext path t)) :=
  knot_base fun W hW => trie_tied (.ext path t) (by simp) hw hs hc (List.replicate 16 []) rfl (fun i _ => rep_getD _ _ _ _ i.isLt) (x :: List.replicate 15 (.pointer none)) rfl W (hT.next hW) (fun i => by
    rcases i with ⟨i, hi⟩
    rcases i with _ | i
    · exact hk.next hW
    · rw [List.getD_cons_succ, rep_getD _ _ _ _ (by omega)]
      exact .nil)
set_option maxRecDepth 100000 in
set_option maxHeartbeats 1000000 in
theorem joined_ext (path p : List UInt8) (t : Trie.T) (hp : path ≠ []) (hw : Trie.wf (.ext (path ++ p) t)) (hs : Trie.small (.ext (path ++ p) t)) (hc : Trie.count t ≤ 1000000) (b : Nat) (ps : List Value) (hps : ps.length = 16) (w : World) (hT : Tbl w)
    (hbk : Blk w b 101 (knotC (.ext p t) ps).toArray) (hk : KnotP w t (ps.getD 0 undef)) :
    Calls Tryd.prog 106 #[.string ⟨path.toArray⟩, .pointer (some ⟨b, 0, none⟩)] w (KnotEnd w (.ext (path ++ p) t)) := by
  have HP : Hid (∀ x w', KnotP w' (.ext (path ++ p) t) x → Below w.heap.size w w' → KnotEnd w (.ext (path ++ p) t) (.returned x) w') := Lib.hid (fun x w' h1 h2 => ⟨x, rfl, h1, h2⟩)
  have hl := Trie.small_ext_path hw hs
  rw [List.length_append] at hl
  have HTd := Lib.hid (tied_ext (path ++ p) t hw hs hc (ps.getD 0 undef) w hT hk)
  obtain ⟨⟨c0, c1, c2, _, _⟩, kr, _, _, _, _⟩ := KnotAt.of (Trie.sumsT_length _) hps hbk
  rename_i j1 j2 j4 j5 j6 j7
  replace c0 : w.cell? ⟨b, 0, none⟩ = some (.int .i64 2) := c0
  replace c1 : w.cell? ⟨b, 1, none⟩ = some (.string ⟨p.toArray⟩) := c1
  have c19 : w.cell? ⟨b, 19, none⟩ = some (ps.getD 0 undef) := kr 0 _ (by rw [List.getD_eq_getElem?_getD, List.getElem?_eq_getElem (show 0 < ps.length by omega)]; rfl)
  have h1c := hk.one
  have ne1 : (path.toArray = #[]) = False := by simp [hp]
  have ne2 : path.isEmpty = false := by cases path <;> simp_all
  have hsum : path.length + p.length ≤ 9223372036854775000 := by omega
  have hnl : (9223372036854775807 < path.length + p.length) = False := by simp; omega
  obtain ⟨b2, hy⟩ : ∃ b2, ps.getD 0 undef = .pointer (some ⟨b2, 0, none⟩) := by
    rcases hk.form with ⟨h, _⟩ | ⟨b2, _, _, h, _⟩
    · rw [h] at hw; exact absurd hw.2.2.1 (by simp [Trie.isBranch])
    · exact ⟨b2, h⟩
  rw [hy] at c19 HTd
  generalize KnotEnd w (.ext (path ++ p) t) = P at HP ⊢
  clear hw hs hT hbk hps hp hl j1 j2 j4 j5 j6 j7 kr c2 hk
  clear hy h1c
  go_enter Tryd.func106, Tryd.ntmps106
  go_wp2
  go_region_held3 (fun w' => w'.cell? ⟨b, 1, none⟩ = some (.string ⟨p.toArray⟩) ∧ w'.cell? ⟨b, 19, none⟩ = some (.pointer (some ⟨b2, 0, none⟩))) (first | go_keep | (constructor <;> assumption)) (fail)
  go_wp2_with (go_at_call 93; refine (HTd.out _ (Below.refl _ _).drew).mono ?_; rintro e w1 ⟨x, rfl, hk, hb⟩)
  exact HP.out _ _ hk hb
set_option maxRecDepth 100000 in
set_option maxHeartbeats 1000000 in
theorem joined_branch (path v : List UInt8) (kids : Fin 16 → Trie.T) (hp : path ≠ []) (hw : Trie.wf (.ext path (.branch v kids))) (hs : Trie.small (.ext path (.branch v kids))) (hc : Trie.count (.branch v kids) ≤ 1000000) (b : Nat) (ps : List Value) (hps : ps.length = 16) (w : World) (hT : Tbl w)
    (hbk : Blk w b 101 (knotC (.branch v kids) ps).toArray) (hk : KnotP w (.branch v kids) (.pointer (some ⟨b, 0, none⟩))) :
    Calls Tryd.prog 106 #[.string ⟨path.toArray⟩, .pointer (some ⟨b, 0, none⟩)] w (KnotEnd w (.ext path (.branch v kids))) := by
  have HP : Hid (∀ x w', KnotP w' (.ext path (.branch v kids)) x → Below w.heap.size w w' → KnotEnd w (.ext path (.branch v kids)) (.returned x) w') := Lib.hid (fun x w' h1 h2 => ⟨x, rfl, h1, h2⟩)
  have HTd := Lib.hid (tied_ext path _ hw hs hc _ w hT hk)
  obtain ⟨⟨c0, c1, c2, _, _⟩, kr, _, _, _, _⟩ := KnotAt.of (Trie.sumsT_length _) hps hbk
  rename_i j1 j2 j4 j5 j6 j7
  replace c0 : w.cell? ⟨b, 0, none⟩ = some (.int .i64 3) := c0
  have ne1 : (path.toArray = #[]) = False := by simp [hp]
  have ne2 : path.isEmpty = false := by cases path <;> simp_all
  generalize KnotEnd w (.ext path (.branch v kids)) = P at HP ⊢
  clear hw hs hT hbk hps hp j1 j2 j4 j5 j6 j7 kr c2 c1 hk
  go_enter Tryd.func106, Tryd.ntmps106
  go_wp2_with (go_at_call 93; refine (HTd.out _ (Below.refl _ _)).mono ?_; rintro e w1 ⟨x, rfl, hk, hb⟩)
  exact HP.out _ _ hk hb
theorem trie_joined (path : List UInt8) (t : Trie.T) (hn : t ≠ .nil) (hw : Trie.wf (Trie.joined path t)) (hs : Trie.small (Trie.joined path t)) (hc : Trie.count t ≤ 1000000) (x : Value) (w : World) (hT : Tbl w) (hk : KnotP w t x) :
    Calls Tryd.prog 106 #[.string ⟨path.toArray⟩, x] w (KnotEnd w (Trie.joined path t)) := by
  by_cases hp : path = []
  · subst hp
    rw [show Trie.joined [] t = t by simp [Trie.joined]]
    exact joined_nil t x w hk
  · rcases hk.form with ⟨h, _⟩ | ⟨b, ps, _, rfl, hps, hbk, hks⟩
    · exact absurd h hn
    · cases t with
      | nil => exact absurd rfl hn
      | leaf p v =>
        simp only [Trie.joined, if_neg hp] at hw hs ⊢
        exact joined_leaf path p v hp hw hs b ps hps w hT hbk
      | ext p t =>
        simp only [Trie.joined, if_neg hp] at hw hs ⊢
        exact joined_ext path p t hp hw hs hc b ps hps w hT hbk (hks 0)
      | branch v kids =>
        simp only [Trie.joined, if_neg hp] at hw hs ⊢
        exact joined_branch path v kids hp hw hs hc b ps hps w hT hbk hk
end Go.Proofs.YtefcmigbdfeaiaaDoor

namespace Go.Proofs.YtefcmigbdfeaiaaDoor
set_option linter.unusedVariables false
open Go.RowKit Go.Instr
attribute [local go_sem] ba_get ByteArray.mk_append_mk
attribute [local go_sem ↓] Go.wp_at_zero Go.wp_at_succ
def noPtrs : Array Value := #[.pointer none, .pointer none, .pointer none, .pointer none, .pointer none, .pointer none, .pointer none, .pointer none, .pointer none, .pointer none, .pointer none, .pointer none, .pointer none, .pointer none, .pointer none, .pointer none]
theorem kids_one {w : World} {kids : Fin 16 → Trie.T} {ps : List Value} (hps : ps.length = 16) (hk : ∀ i : Fin 16, KnotP w (kids i) (ps.getD i.val undef)) : ∀ v ∈ ps, v.oneCell' = true := by
  intro v hv
  obtain ⟨i, hi, rfl⟩ := List.getElem_of_mem hv
  have := (hk ⟨i, by omega⟩).one
  rw [List.getD_eq_getElem?_getD] at this
  simpa [hi] using this
theorem kids_set {w : World} {kids : Fin 16 → Trie.T} {ps : List Value} (hps : ps.length = 16) (hk : ∀ i : Fin 16, KnotP w (kids i) (ps.getD i.val undef)) (b : UInt8) (hb : b ≤ 15) (t : Trie.T) (x : Value) (hx : KnotP w t x) :
    ∀ i : Fin 16, KnotP w (Trie.setKid kids b t i) ((ps.set b.toNat x).getD i.val undef) := by
  intro i
  have hb' : b.toNat < 16 := by rw [UInt8.le_iff_toNat_le] at hb; simp at hb; omega
  have hi := i.isLt
  unfold Trie.setKid
  by_cases h : i = Trie.ix b
  · rw [if_pos h]
    have e : i.val = b.toNat := by rw [h]; simp [Trie.ix]; omega
    rw [e, List.getD_eq_getElem?_getD, List.getElem?_set_self (by omega)]
    exact hx
  · rw [if_neg h]
    have e : b.toNat ≠ i.val := fun e => h (Fin.ext (by simp [Trie.ix]; omega))
    rw [List.getD_eq_getElem?_getD, List.getElem?_set_ne e, ← List.getD_eq_getElem?_getD]
    exact hk i
theorem KnotP.far {w w' : World} {t : Trie.T} {x : Value} (hf : ∀ b cs, Blk w b 101 cs → Blk w' b 101 cs) (h : KnotP w t x) : KnotP w' t x := by
  induction h with
  | nil => exact .nil
  | knot t b ps h1 h2 h3 _ ih => exact .knot t b ps h1 h2 (hf _ _ h3) ih
theorem KnotP.setKids {w : World} {t : Trie.T} {x : Value} {g : Nat} {cs : Array Value} (h : KnotP w t x) (hg : Blk w g 99 cs) (i : Nat) (u : Value) : KnotP (w.setCell ⟨g, i, none⟩ u) t x :=
  h.far fun b cs' hb => hb.far (p := ⟨g, i, none⟩) (Blk.ne_ hb hg (by decide)) u
theorem rangeAt_below {w w1 : World} {B g o : Nat} {cs : List Value} (h : w.rangeAt g o cs) (hb : Below B w w1) (hg : g < B) : w1.rangeAt g o cs := fun j u hu => (hb.cell (p := ⟨g, o + j, none⟩) hg).trans (h j u hu)
def KidIn (w : World) (g g2 : Nat) (t : Trie.T) (ps : List Value) (i : Nat) (n : Trie.T) (wx : World) : Prop :=
  ∃ b3, Blk wx g2 99 (ps.set i (.pointer (some ⟨b3, 0, none⟩))).toArray ∧ KnotP wx n (.pointer (some ⟨b3, 0, none⟩)) ∧ Blk wx g 101 (knotC t ps).toArray ∧ Below w.heap.size w wx
theorem KidIn.of {w W2 w3 : World} {g g2 : Nat} {t : Trie.T} {ps : List Value} {i : Nat} {n : Trie.T} {b3 : Nat} (h1 : Blk W2 g2 99 ps.toArray) (h2 : Blk W2 g 101 (knotC t ps).toArray) (h3 : Below w.heap.size w W2) (hg : g < g2) (hw : w.heap.size ≤ g2) (hk : KnotP w3 n (.pointer (some ⟨b3, 0, none⟩))) (hb : Below W2.heap.size W2 w3) :
    KidIn w g g2 t ps i n (w3.setCell ⟨g2, i, none⟩ (.pointer (some ⟨b3, 0, none⟩))) := by
  refine ⟨b3, ?_, hk.setKids (h1.below hb h1.lt) _ _, (h2.below hb h2.lt).far (by simp; omega) _, (h3.nxt hb).setCell hw _⟩
  have := (h1.below hb h1.lt).set_ i (.pointer (some ⟨b3, 0, none⟩))
  rwa [List.setIfInBounds_toArray] at this
theorem KidIn.drew {w : World} {g g2 : Nat} {t : Trie.T} {ps : List Value} {i : Nat} {n : Trie.T} {wx : World} (h : KidIn w g g2 t ps i n wx) : KidIn w g g2 t ps i n wx.drew := by
  obtain ⟨b3, h1, h2, h3, h4⟩ := h
  exact ⟨b3, h1, h2.next (Below.refl _ _).drew, h3, h4.drew⟩
set_option maxRecDepth 100000 in
set_option maxHeartbeats 1000000 in
theorem put_kid (v0 : List UInt8) (kids : Fin 16 → Trie.T) (b : UInt8) (r v : List UInt8) (hb : b ≤ 15) (hr : r.length ≤ 1000)
    (hw : Trie.wf (.branch v0 (Trie.setKid kids b (Trie.put (kids (Trie.ix b)) r v)))) (hs : Trie.small (.branch v0 (Trie.setKid kids b (Trie.put (kids (Trie.ix b)) r v)))) (hc : Trie.count (.branch v0 (Trie.setKid kids b (Trie.put (kids (Trie.ix b)) r v))) ≤ 1000000)
    (g : Nat) (ps : List Value) (hps : ps.length = 16) (w : World) (hT : Tbl w)
    (hbk : Blk w g 101 (knotC (.branch v0 kids) ps).toArray) (hks : ∀ i : Fin 16, KnotP w (kids i) (ps.getD i.val undef))
    (IH : ∀ (x : Value) (W : World), Tbl W → KnotP W (kids (Trie.ix b)) x → Calls Tryd.prog 79 #[x, .string ⟨r.toArray⟩, .string ⟨v.toArray⟩] W (KnotEnd W (Trie.put (kids (Trie.ix b)) r v))) :
    Calls Tryd.prog 79 #[.pointer (some ⟨g, 0, none⟩), .string ⟨(b :: r).toArray⟩, .string ⟨v.toArray⟩] w (KnotEnd w (.branch v0 (Trie.setKid kids b (Trie.put (kids (Trie.ix b)) r v)))) := by
  have HP : Hid (∀ x w', KnotP w' (.branch v0 (Trie.setKid kids b (Trie.put (kids (Trie.ix b)) r v))) x → Below w.heap.size w w' → KnotEnd w (.branch v0 (Trie.setKid kids b (Trie.put (kids (Trie.ix b)) r v))) (.returned x) w') := Lib.hid (fun x w' h1 h2 => ⟨x, rfl, h1, h2⟩)
  have HB : Hid (∀ (ps' : List Value) (W : World), ps'.length = 16 → Below w.heap.size w W → (∀ i : Fin 16, KnotP W (Trie.setKid kids b (Trie.put (kids (Trie.ix b)) r v) i) (ps'.getD i.val undef)) → Calls Tryd.prog 105 #[.string ⟨v0.toArray⟩, .agg ps'.toArray] W (KnotEnd W (.branch v0 (Trie.setKid kids b (Trie.put (kids (Trie.ix b)) r v))))) :=
    Lib.hid (fun ps' W h1 h2 h3 => trie_branch v0 _ hw hs hc ps' h1 W (hT.next h2) h3)
  have HIH : Hid (∀ W, Below w.heap.size w W → Calls Tryd.prog 79 #[ps.getD b.toNat undef, .string ⟨r.toArray⟩, .string ⟨v.toArray⟩] W (KnotEnd W (Trie.put (kids (Trie.ix b)) r v))) :=
    Lib.hid (fun W hW => IH _ W (hT.next hW) (by
      have := (hks (Trie.ix b)).next hW
      rwa [show (Trie.ix b).val = b.toNat by rw [UInt8.le_iff_toNat_le] at hb; simp at hb; simp [Trie.ix]; omega] at this))
  have HKs := Lib.hid (fun W (hW : Below w.heap.size w W) x (hx : KnotP W (Trie.put (kids (Trie.ix b)) r v) x) => kids_set hps (fun i => (hks i).next hW) b hb _ x hx)
  have HBK := Lib.hid hbk
  have HNN := Lib.hid (Trie.put_nn (kids (Trie.ix b)) r v)
  have HOne := Lib.hid (kids_one hps hks)
  have Hps := Lib.hid hps
  have HCom : Hid (∀ W, Calls Tryd.prog 58 #[.string ⟨#[]⟩, .string ⟨(b :: r).toArray⟩] W fun e w' => e = .returned (.int .i64 0) ∧ Below W.heap.size W w') := Lib.hid (fun W => nib_Common [] (b :: r) W (by simp) (by simp; omega))
  have hsl := Lib.hid (Trie.sumsT_length (.branch v0 kids))
  have hb16 : b.toNat < 16 := by rw [UInt8.le_iff_toNat_le] at hb; simp at hb; omega
  have hbi : (b.toNat : Int) < 16 := by omega
  have c1 : w.cell? ⟨g, 1, none⟩ = some (.string ⟨#[]⟩) := (KnotAt.of hsl.out hps hbk).node.c1
  generalize KnotEnd w (.branch v0 (Trie.setKid kids b (Trie.put (kids (Trie.ix b)) r v))) = P at HP ⊢
  clear hw hs hc hT IH hks hbk hb hps
  go_enter Tryd.func79, Tryd.ntmps79
  go_upto_region 4 with (go_at_call 58; refine (HCom.out _).mono ?_; rintro e w1 ⟨rfl, hb⟩)
  clear c1
  have K1 := KnotAt.of hsl.out Hps.out (HBK.out.below hb HBK.out.lt)
  have HB1 := Lib.hid hb
  have HBK1 := Lib.hid (HBK.out.below hb HBK.out.lt)
  clear hb
  obtain ⟨⟨c0, c1, c2, _, _⟩, kr, _, _, _, _⟩ := K1
  rename_i j1 j2 j4 j5 j6 j7
  replace c0 : w1.cell? ⟨g, 0, none⟩ = some (.int .i64 3) := c0
  replace c1 : w1.cell? ⟨g, 1, none⟩ = some (.string ⟨#[]⟩) := c1
  clear j1 j2 j4 j5 j6 j7 c2
  have SZP : (Tryd.prog.info? 99).map (·.size) = some ps.toArray.size := by rw [List.size_toArray, Hps.out]; exact info_ptrs
  have SZQ : (Tryd.prog.info? 99).map (·.size) = some ps.length := by rw [Hps.out]; exact info_ptrs
  have SN : noPtrs.size = ps.toArray.size := by show 16 = ps.length; rw [Hps.out]
  unfold noPtrs at SN
  have AP : ps.toArray.all (·.oneCell') = true := all_oneCell_toArray HOne.out
  go_upto_region 9 with (first | (with_reducible refine at_load 57 ?_; refine wpList_load_mid rfl 99 _ rfl g 19 rfl _ _ kr Tryd.underlying99 rfl SZQ ?_) | (with_reducible refine at_store 57 ?_; refine wpList_store_row rfl 99 _ _ rfl w1.heap.size _ rfl rfl _ _ (heap_alloc_new w1 _) SZP SN AP ?_))
  have F2 : Hid (Blk ((w1.alloc (.cells noPtrs 99)).setRow w1.heap.size ps.toArray) w1.heap.size 99 ps.toArray ∧ Blk ((w1.alloc (.cells noPtrs 99)).setRow w1.heap.size ps.toArray) g 101 (knotC (.branch v0 kids) ps).toArray ∧ Below w.heap.size w ((w1.alloc (.cells noPtrs 99)).setRow w1.heap.size ps.toArray)) :=
    Lib.hid ⟨setRow_heap _ _ _ _ _ _ (heap_alloc_new w1 _), (setRow_other _ _ _ _ (by have := HBK1.out.lt; omega)).trans (HBK1.out.alloc _), below_setRow (HB1.out.alloc HB1.out.size _) HB1.out.size _⟩
  have HG : Hid (g < w1.heap.size ∧ w.heap.size ≤ w1.heap.size) := Lib.hid ⟨HBK1.out.lt, HB1.out.size⟩
  clear c0 c1 kr SZP SN AP HB1 HBK1
  unfold noPtrs at F2
  generalize hW2 : World.setRow _ w1.heap.size ps.toArray = W2 at F2 ⊢
  generalize w1.heap.size = g2 at *
  clear hW2
  have cb : W2.cell? ⟨g2, b.toNat, none⟩ = some (ps.getD b.toNat undef) := by
    rw [F2.out.1.cell, List.getD_eq_getElem?_getD, List.getElem?_toArray, List.getElem?_eq_getElem (by rw [Hps.out]; exact hb16)]; rfl
  have fb := F2.out.1.frozen b.toNat
  have hbx : 0 ≤ (b.toNat : Int) := by omega
  generalize ps.getD b.toNat undef = y at *
  have HTl := run_tail b r
  have HG2 : Hid (g2 < W2.heap.size) := Lib.hid F2.out.1.lt
  simp only [Act.put]
  go_cut [67] (fun s67 wx => KidIn w g g2 (.branch v0 kids) ps b.toNat (Trie.put (kids (Trie.ix b)) r v) wx)
  case first =>
    go_region_with (go_at_call 79; refine (HIH.out _ (by first | exact F2.out.2.2 | exact F2.out.2.2.drew)).mono ?_; rintro e w3 ⟨x, rfl, hk, hb⟩; obtain ⟨b3, rfl⟩ := hk.ptr HNN.out; have hb2 : Below W2.heap.size W2 w3 := (by first | exact hb | exact hb.start); clear hb; have d1 := (hb2.cell (p := ⟨g2, b.toNat, none⟩) HG2.out).trans cb; have d2 := (hb2.frozen (p := ⟨g2, b.toNat, none⟩) HG2.out).trans fb)
    all_goals go_wp2
    all_goals go_meet
    all_goals first | exact KidIn.of F2.out.1 F2.out.2.1 F2.out.2.2 HG.out.1 HG.out.2 hk hb2 | exact (KidIn.of F2.out.1 F2.out.2.1 F2.out.2.2 HG.out.1 HG.out.2 hk hb2).drew
  case rest =>
    obtain ⟨b3, h1, h2, h3, h4⟩ := hcut
    have HKids := Lib.hid (HKs.out wc h4 _ h2)
    have Hlen : Hid ((ps.set b.toNat (.pointer (some ⟨b3, 0, none⟩))).length = 16) := Lib.hid (by rw [List.length_set]; exact Hps.out)
    have HA := Lib.hid (kids_one Hlen.out HKids.out)
    have HBr := Lib.hid (fun W hW => HB.out _ W Hlen.out (h4.nxt hW) (fun i => (HKids.out i).next hW))
    have c2 : wc.cell? ⟨g, 2, none⟩ = some (.string ⟨v0.toArray⟩) := (KnotAt.of hsl.out Hps.out h3).node.c2
    have RP := h1.range
    have SZR : (Tryd.prog.info? 99).map (·.size) = some (ps.set b.toNat (.pointer (some ⟨b3, 0, none⟩))).length := by rw [Hlen.out]; exact info_ptrs
    have HU := Tryd.underlying99
    have Hlen2 := Hlen.out
    have HA2 := HA.out
    have HLt : Hid (g < wc.heap.size ∧ g2 < wc.heap.size) := Lib.hid ⟨h3.lt, h1.lt⟩
    have HX := Lib.hid (And.intro h1 (And.intro h2 (And.intro h3 h4)))
    clear h1 h2 h3 h4 HKs HB HIH HBK HOne HCom HTl fb cb F2 SZQ
    generalize ps.set b.toNat (.pointer (some ⟨b3, 0, none⟩)) = qs at *
    go_wp2_with fail
    go_region_held3 (fun w' => w'.cell? ⟨g, 2, none⟩ = some (.string ⟨v0.toArray⟩) ∧ w'.rangeAt g2 0 qs) (first | go_keep_ranges | (constructor <;> assumption)) (first | (go_at_call 105; refine (HBr.out _ (by first | exact Below.refl _ _ | exact (Below.refl _ _).drew)).mono ?_; rintro e w5 ⟨x, rfl, hk, hb⟩; have hbx : Below wc.heap.size wc w5 := (by first | exact hb | exact hb.start); clear hb; have d1 := (hbx.cell (p := ⟨g, 2, none⟩) HLt.out.1).trans c2; have d2 := rangeAt_below RP hbx HLt.out.2))
    go_wp2
    exact HP.out _ _ hk (HX.out.2.2.2.nxt hbx)
end Go.Proofs.YtefcmigbdfeaiaaDoor

namespace Go.Proofs.YtefcmigbdfeaiaaDoor
set_option linter.unusedVariables false
open Go.RowKit Go.Instr
attribute [local go_sem] ba_get ByteArray.mk_append_mk
attribute [local go_sem ↓] Go.wp_at_zero Go.wp_at_succ
theorem put_nil (q v : List UInt8) (hw : Trie.wf (.leaf q v)) (hs : Trie.small (.leaf q v)) (w : World) (hT : Tbl w) :
    Calls Tryd.prog 79 #[.pointer none, .string ⟨q.toArray⟩, .string ⟨v.toArray⟩] w (KnotEnd w (.leaf q v)) := by
  have HP : Hid (∀ x w', KnotP w' (.leaf q v) x → Below w.heap.size w w' → KnotEnd w (.leaf q v) (.returned x) w') := Lib.hid (fun x w' h1 h2 => ⟨x, rfl, h1, h2⟩)
  have HL := Lib.hid (trie_leaf q v hw hs w hT)
  generalize KnotEnd w (.leaf q v) = P at HP ⊢
  clear hw hs hT
  go_enter Tryd.func79, Tryd.ntmps79
  go_wp2_with (go_at_call 104; refine HL.out.mono ?_; rintro e w1 ⟨x, rfl, hk, hb⟩)
  exact HP.out _ _ hk hb
set_option maxRecDepth 100000 in
set_option maxHeartbeats 1000000 in
theorem put_own (v0 : List UInt8) (kids : Fin 16 → Trie.T) (v : List UInt8)
    (hw : Trie.wf (.branch v kids)) (hs : Trie.small (.branch v kids)) (hc : Trie.count (.branch v kids) ≤ 1000000)
    (g : Nat) (ps : List Value) (hps : ps.length = 16) (w : World) (hT : Tbl w)
    (hbk : Blk w g 101 (knotC (.branch v0 kids) ps).toArray) (hks : ∀ i : Fin 16, KnotP w (kids i) (ps.getD i.val undef)) :
    Calls Tryd.prog 79 #[.pointer (some ⟨g, 0, none⟩), .string ⟨#[]⟩, .string ⟨v.toArray⟩] w (KnotEnd w (.branch v kids)) := by
  have HP : Hid (∀ x w', KnotP w' (.branch v kids) x → Below w.heap.size w w' → KnotEnd w (.branch v kids) (.returned x) w') := Lib.hid (fun x w' h1 h2 => ⟨x, rfl, h1, h2⟩)
  have HB : Hid (∀ (W : World), Below w.heap.size w W → Calls Tryd.prog 105 #[.string ⟨v.toArray⟩, .agg ps.toArray] W (KnotEnd W (.branch v kids))) :=
    Lib.hid (fun W h2 => trie_branch v _ hw hs hc ps hps W (hT.next h2) (fun i => (hks i).next h2))
  have HBK := Lib.hid hbk
  have Hps := Lib.hid hps
  have HCom : Hid (∀ W, Calls Tryd.prog 58 #[.string ⟨#[]⟩, .string ⟨#[]⟩] W fun e w' => e = .returned (.int .i64 0) ∧ Below W.heap.size W w') := Lib.hid (fun W => nib_Common [] [] W (by simp) (by simp))
  have hsl := Lib.hid (Trie.sumsT_length (.branch v0 kids))
  have c1 : w.cell? ⟨g, 1, none⟩ = some (.string ⟨#[]⟩) := (KnotAt.of hsl.out hps hbk).node.c1
  generalize KnotEnd w (.branch v kids) = P at HP ⊢
  clear hw hs hc hT hks hbk hps
  go_enter Tryd.func79, Tryd.ntmps79
  go_upto_region 4 with (go_at_call 58; refine (HCom.out _).mono ?_; rintro e w1 ⟨rfl, hb⟩)
  clear c1
  have K1 := KnotAt.of hsl.out Hps.out (HBK.out.below hb HBK.out.lt)
  have HB1 := Lib.hid hb
  clear hb
  obtain ⟨⟨c0, c1, c2, _, _⟩, kr, _, _, _, _⟩ := K1
  rename_i j1 j2 j4 j5 j6 j7
  replace c0 : w1.cell? ⟨g, 0, none⟩ = some (.int .i64 3) := c0
  replace c1 : w1.cell? ⟨g, 1, none⟩ = some (.string ⟨#[]⟩) := c1
  clear j1 j2 j4 j5 j6 j7 c2
  have SZQ : (Tryd.prog.info? 99).map (·.size) = some ps.length := by rw [Hps.out]; exact info_ptrs
  go_wp2_with (first | (with_reducible refine at_load 45 ?_; refine wpList_load_mid rfl 99 _ rfl g 19 rfl _ _ kr Tryd.underlying99 rfl SZQ ?_) | (go_at_call 105; refine (HB.out _ HB1.out).mono ?_; rintro e w5 ⟨x, rfl, hk, hb⟩))
  exact HP.out _ _ hk (HB1.out.nxt hb)
set_option maxRecDepth 100000 in
set_option maxHeartbeats 1000000 in
theorem put_same (p v0 v : List UInt8) (hp : p.length ≤ 1000) (hw : Trie.wf (.leaf p v)) (hs : Trie.small (.leaf p v)) (g : Nat) (ps : List Value) (hps : ps.length = 16) (w : World) (hT : Tbl w)
    (hbk : Blk w g 101 (knotC (.leaf p v0) ps).toArray) :
    Calls Tryd.prog 79 #[.pointer (some ⟨g, 0, none⟩), .string ⟨p.toArray⟩, .string ⟨v.toArray⟩] w (KnotEnd w (.leaf p v)) := by
  have HP : Hid (∀ x w', KnotP w' (.leaf p v) x → Below w.heap.size w w' → KnotEnd w (.leaf p v) (.returned x) w') := Lib.hid (fun x w' h1 h2 => ⟨x, rfl, h1, h2⟩)
  have HL : Hid (∀ (W : World), Below w.heap.size w W → Calls Tryd.prog 104 #[.string ⟨p.toArray⟩, .string ⟨v.toArray⟩] W (KnotEnd W (.leaf p v))) := Lib.hid (fun W h2 => trie_leaf p v hw hs W (hT.next h2))
  have HBK := Lib.hid hbk
  have Hps := Lib.hid hps
  have hcs : Nib.common p p = p.length := by have := Trie.common_self_append p []; rwa [List.append_nil] at this
  have HCom : Hid (∀ W, Calls Tryd.prog 58 #[.string ⟨p.toArray⟩, .string ⟨p.toArray⟩] W fun e w' => e = .returned (.int .i64 (p.length : Int)) ∧ Below W.heap.size W w') := Lib.hid (fun W => by
    have := nib_Common p p W (by omega) (by omega)
    rwa [hcs] at this)
  have hsl := Lib.hid (Trie.sumsT_length (.leaf p v0))
  have c1 : w.cell? ⟨g, 1, none⟩ = some (.string ⟨p.toArray⟩) := (KnotAt.of hsl.out hps hbk).node.c1
  generalize KnotEnd w (.leaf p v) = P at HP ⊢
  clear hw hs hT hbk hps hcs
  go_enter Tryd.func79, Tryd.ntmps79
  go_upto_region 4 with (go_at_call 58; refine (HCom.out _).mono ?_; rintro e w1 ⟨rfl, hb⟩)
  clear c1
  have K1 := KnotAt.of hsl.out Hps.out (HBK.out.below hb HBK.out.lt)
  have HB1 := Lib.hid hb
  clear hb
  obtain ⟨⟨c0, c1, c2, _, _⟩, kr, _, _, _, _⟩ := K1
  rename_i j1 j2 j4 j5 j6 j7
  replace c0 : w1.cell? ⟨g, 0, none⟩ = some (.int .i64 1) := c0
  replace c1 : w1.cell? ⟨g, 1, none⟩ = some (.string ⟨p.toArray⟩) := c1
  clear j1 j2 j4 j5 j6 j7 c2 kr
  go_wp2_with (go_at_call 104; refine (HL.out _ HB1.out).mono ?_; rintro e w5 ⟨x, rfl, hk, hb⟩)
  exact HP.out _ _ hk (HB1.out.nxt hb)
end Go.Proofs.YtefcmigbdfeaiaaDoor
