import Derived.Test.YtefcmigbdfeaiaaDoorJ20
import Derived.Deep.MidRow
import Derived.Test.YtefcmigbdfeaiaaDoorJ37
import Derived.Test.YtefcmigbdfeaiaaDoorJ29
import Derived.Test.YtefcmigbdfeaiaaDoorJ16
set_option linter.unusedSimpArgs false
set_option linter.unusedVariables false
/- The blocks that a walk keeps, more: a whole value is laid into a block. No conditions. -/
namespace Go.Proofs.YtefcmigbdfeaiaaDoor
set_option linter.unusedVariables false
open Go.RowKit
theorem Blk.setAll {g : Nat} {t : TypeId} : ∀ (vs A B R : List Value) (w : World), B.length = vs.length → Blk w g t (A ++ (B ++ R)).toArray → Blk (w.setCells g A.length vs) g t (A ++ (vs ++ R)).toArray
  | [], A, B, R, w, h, hb => by
    have : B = [] := List.eq_nil_of_length_eq_zero h
    subst this
    exact hb
  | v :: r, A, [], R, w, h, hb => by simp at h
  | v :: r, A, b :: B, R, w, h, hb => by
    have h1 := hb.set_ A.length v
    rw [List.setIfInBounds_toArray, List.set_append_right _ _ (Nat.le_refl _), Nat.sub_self] at h1
    simp only [List.cons_append, List.set_cons_zero] at h1
    have h2 := Blk.setAll r (A ++ [v]) B R (w.setCell ⟨g, A.length, none⟩ v) (by simpa using h) (by simpa using h1)
    rw [List.length_append] at h2
    simpa [World.setCells] using h2
theorem grown_setAll {g : Nat} {a : World} : ∀ (vs : List Value) (o : Nat) (w : World), a.grownBy w (some g) → a.grownBy (w.setCells g o vs) (some g)
  | [], _, _, h => h
  | v :: r, o, w, h => grown_setAll r (o + 1) _ ⟨h.os, h.tape, h.output, by simpa [World.setCell] using h.size, fun j hj hne => (Below.heap_setCell _ _ _ _ (fun e => hne (by rw [e]))).trans (h.block j hj hne)⟩
section
variable {w W : World} {L : List (Nat × Nat × Array Value)} {g t : Nat} {cs : Array Value}
theorem Live.hall (h : Hid (Live w W L)) (i : Nat) (vs : List Value) (hi : L[i]? = some (g, t, cs)) (hl : cs.size = vs.length) : Hid (Live w (W.setCells g 0 vs) (L.set i (g, t, vs.toArray))) := by
  refine Lib.hid (h.out.grown i hi (grown_setAll vs 0 W (World.grownBy.refl _ _)) ?_)
  have hb := h.out.blk i hi
  have := Blk.setAll vs [] cs.toList [] W (by rw [← hl]; exact Array.length_toList) (by simpa using hb)
  simpa using this
theorem Live.there (h : Live w W L) (i : Nat) (n : Nat) (hi : L[i]? = some (g, t, cs)) (hn : n ≤ cs.size) : W.there g 0 n := fun j hj => by
  rw [Nat.zero_add]
  refine ⟨?_, h.frozen i j hi⟩
  rw [(h.blk i hi).cell, Array.getElem?_eq_getElem (by omega)]; rfl
end
/-- a guard for an arm: the operation that writes that slot -/
theorem at_op {P : Program} {ops : Array Oper} {Q : Exit → Act → World → Prop} {rest : List Oper} {a : Act} {w : World} (n : Tmp) {op : Op} {t : TypeId} {p : String} {af : Array Edge} {g : Option (Nat × Bool)}
    (h : wpList P ops Q (⟨some n, op, t, p, af, g⟩ :: rest) a w) : wpList P ops Q (⟨some n, op, t, p, af, g⟩ :: rest) a w := h
end Go.Proofs.YtefcmigbdfeaiaaDoor

/- The document's layer 10 (trie): grown, where there is none, one, or an extension. No conditions. -/
namespace Go.Proofs.YtefcmigbdfeaiaaDoor
set_option linter.unusedVariables false
open Go.RowKit Go.Instr
attribute [local go_sem] ba_get ByteArray.mk_append_mk
theorem own_cap {w : World} {base e size n c : Nat} {A : Option Addr} {xs : List Value} (h : w.ownsRow base e size (.slice A n c) n xs) : n ≤ c := by
  obtain ⟨A', c', hv, _, hc, _⟩ := own_form h
  injection hv with _ _ hv
  omega
/-- the contract of 'grown' at a part of a trie -/
def GrownAt (t : Trie.T) (pl : List UInt8) : Prop := ∀ (w : World) (A : Option Addr) (c n : Nat), n = Trie.count t → n ≤ c → Reads w w.heap.size 2 A n (icells (Trie.items t [])) →
  Calls Tryd.prog 53 #[.slice A n c, .string ⟨pl.toArray⟩] w (SpotsEnd w (Trie.goT allW t pl))
set_option maxRecDepth 100000 in
theorem grown_nil (pl : List UInt8) : GrownAt .nil pl := by
  intro w A c n hn hcap HR
  obtain rfl : n = 0 := hn
  have HP : Hid (∀ w', Below w.heap.size w w' → SpotsEnd w (Trie.goT allW .nil pl) (.returned (.slice none 0 0)) w') := Lib.hid (fun w' h => ⟨none, 0, 0, rfl, rfl, World.ownsRow_nil _ _ _ _, h⟩)
  generalize SpotsEnd w (Trie.goT allW .nil pl) = P at HP ⊢
  clear HR hcap
  go_enter Tryd.func53, Tryd.ntmps53
  go_wp2
  exact HP.out _ (Below.refl _ _)
set_option maxRecDepth 100000 in
set_option maxHeartbeats 4000000 in
theorem grown_leaf (p v : List UInt8) (pl : List UInt8) (ha : Trie.At pl (.leaf p v)) : GrownAt (.leaf p v) pl := by
  intro w A c n hn hcap HR
  obtain rfl : n = 1 := hn
  have HP : Hid (∀ e w', SpotsEnd w [(pl, .leaf p v)] e w' → SpotsEnd w (Trie.goT allW (.leaf p v) pl) e w') := Lib.hid (fun e w' h => h)
  generalize SpotsEnd w (Trie.goT allW (.leaf p v) pl) = P at HP ⊢
  have HSp : Hid (∀ W, Below w.heap.size w W → Calls Tryd.prog 81 #[.string ⟨pl.toArray⟩, .agg #[.int .i64 1, .string ⟨p.toArray⟩, .string ⟨v.toArray⟩, .string ⟨#[]⟩, .string ⟨#[]⟩, .string ⟨#[]⟩, .string ⟨#[]⟩, .string ⟨#[]⟩, .string ⟨#[]⟩, .string ⟨#[]⟩, .string ⟨#[]⟩, .string ⟨#[]⟩, .string ⟨#[]⟩, .string ⟨#[]⟩, .string ⟨#[]⟩, .string ⟨#[]⟩, .string ⟨#[]⟩, .string ⟨#[]⟩, .string ⟨#[]⟩], .slice none 0 0] W (fun e w' => ∃ A n c, e = .returned (.slice A n c) ∧ Below w.heap.size w w' ∧ P (.returned (.slice A n c)) w')) := Lib.hid (fun W hb => (ref10_spot W pl (.leaf p v) (by simp) ha.wf ha.small [] (by simp) none 0 Reads.none_).mono fun e w' ⟨A, c, n, he, h1, h2, h3⟩ => ⟨A, n, c, he, Below.nxt hb h3, HP.out _ _ ⟨A, c, n, rfl, h1, own_lower h2 hb.size, Below.nxt hb h3⟩⟩)
  have hsh := Trie.items_short ha (p, v) (by simp [Trie.items])
  obtain ⟨ad, off, rfl, hbl, hcell⟩ := item_cells (l := [(p, v)]) HR (i := 0) (by simp)
  simp only [List.getElem_cons_zero, Nat.zero_mul, Nat.add_zero] at hcell
  have HCl := Lib.hid hcell
  obtain ⟨q0, q1⟩ := hcell _ (Below.refl _ _)
  clear HR hcell ha hcap
  go_enter Tryd.func53, Tryd.ntmps53
  go_upto_region 4 with fail
  go_region_held3 (fun w' => w'.cell? ⟨ad, off, none⟩ = some (.string ⟨p.toArray⟩) ∧ w'.cell? ⟨ad, off + 1, none⟩ = some (.string ⟨v.toArray⟩)) (first | go_keep | (constructor <;> assumption)) ((go_at_call 81; refine (HSp.out _ (by first | exact (Below.refl _ _).drew | exact Below.refl _ _)).mono ?_; rintro e w1 ⟨A1, n1, c1, rfl, hb, hp⟩; have HF := Lib.hid hp; obtain ⟨z0, z1⟩ := HCl.out _ hb; clear hp hb))
  go_wp2
  exact HF.out
theorem goT_head {t : Trie.T} (h : t ≠ .nil) (pl : List UInt8) : ∃ D, Trie.goT allW t pl = (pl, t) :: D := by
  cases t with
  | nil => exact absurd rfl h
  | leaf p v => exact ⟨[], rfl⟩
  | ext p t => exact ⟨_, rfl⟩
  | branch v kids => exact ⟨_, rfl⟩
theorem spv_sum (pl : List UInt8) (t : Trie.T) (D : List (List UInt8 × Trie.T)) : (spv ((pl, t) :: D))[2]? = some (.string ⟨(Trie.sumT t).toArray⟩) := rfl
set_option maxRecDepth 100000 in
set_option maxHeartbeats 4000000 in
theorem grown_ext (p : List UInt8) (t : Trie.T) (pl : List UInt8) (ha : Trie.At pl (.ext p t)) (hc : Trie.count t ≤ 2000) (IH : GrownAt t (pl ++ p)) : GrownAt (.ext p t) pl := by
  intro w A c n hn hcap HR
  have HP : Hid (∀ e w', SpotsEnd w ((pl, .ext p t) :: Trie.goT allW t (pl ++ p)) e w' → SpotsEnd w (Trie.goT allW (.ext p t) pl) e w') := Lib.hid (fun e w' h => h)
  generalize SpotsEnd w (Trie.goT allW (.ext p t) pl) = P at HP ⊢
  have hw := ha.wf
  have htn : t ≠ .nil := by rintro rfl; simp [Trie.wf, Trie.isBranch] at hw
  have h2 : 2 ≤ Trie.count t := by
    cases t with
    | branch v kids => exact Trie.items_two hw.2.2.2
    | _ => simp [Trie.wf, Trie.isBranch] at hw
  obtain ⟨m, hm⟩ : ∃ m, Trie.count t = m + 1 := ⟨Trie.count t - 1, by omega⟩
  have hm1 : 1 ≤ m ∧ m ≤ 2000 := by omega
  obtain rfl : n = m + 1 := hn.trans hm
  obtain ⟨L, hL⟩ : ∃ L, Trie.items (.ext p t) [] = L := ⟨_, rfl⟩
  have hLl : L.length = m + 1 := by rw [← hL, Trie.length_items]; exact hm
  obtain ⟨x, L0, e1⟩ : ∃ x L0, L = x :: L0 := by
    cases L with
    | nil => simp at hLl
    | cons a b => exact ⟨a, b, rfl⟩
  obtain ⟨L1, z, e2⟩ : ∃ L1 z, L0 = L1 ++ [z] := by
    rcases List.eq_nil_or_concat L0 with e | ⟨a, b, e⟩
    · rw [e1, e] at hLl; simp at hLl; omega
    · exact ⟨a, b, by rw [e]; simp⟩
  have hap := Trie.ext_apart hw x z L1 (by rw [hL, e1, e2])
  have hsx := Trie.items_short ha x (by rw [hL, e1]; simp)
  have hsz := Trie.items_short ha z (by rw [hL, e1, e2]; simp)
  obtain ⟨xr, hxr⟩ : ∃ r, x.1 = p ++ r := by
    have : x ∈ Trie.items (.ext p t) [] := by rw [hL, e1]; simp
    rw [show Trie.items (.ext p t) [] = Trie.items t ([] ++ p) from rfl, Trie.items_pl, List.mem_map] at this
    obtain ⟨y, _, hy⟩ := this
    exact ⟨y.1, by rw [← hy]; simp⟩
  rw [hL, ← hLl] at HR
  obtain ⟨ad, off, rfl, hbl, hcell0⟩ := item_cells HR (i := 0) (by omega)
  obtain ⟨ad', off', hA', _, hcellz⟩ := item_cells HR (i := m) (by omega)
  injection hA' with hA'
  injection hA' with hA1 hA2
  subst hA1 hA2
  have ez : L[m]'(by omega) = z := by
    have : L[m]? = some z := by
      have hl1 : L1.length + 1 = m := by rw [e1, e2] at hLl; simp at hLl; omega
      rw [e1, e2, ← hl1, List.getElem?_cons_succ, List.getElem?_append_right (by omega), Nat.sub_self]; rfl
    rw [List.getElem?_eq_getElem (by omega)] at this
    exact Option.some.inj this
  have ex : L[0]'(by omega) = x := by simp [e1]
  simp only [ex, ez, Nat.zero_mul, Nat.add_zero] at hcell0 hcellz
  have HCl : Hid (∀ w', Below w.heap.size w w' → w'.cell? ⟨ad, off, none⟩ = some (.string ⟨x.1.toArray⟩) ∧ w'.cell? ⟨ad, off + m * 2, none⟩ = some (.string ⟨z.1.toArray⟩)) := Lib.hid (fun w' hb => ⟨(hcell0 w' hb).1, (hcellz w' hb).1⟩)
  have hple := Trie.At.len ha (by simp)
  have hpne := hw.2.1
  have hp1 : 1 ≤ p.length := List.length_pos_iff.2 hpne
  have hp16 : p.length ≤ 16 := by have := hsx.1; rw [hxr, List.length_append] at this; omega
  have HLs : Hid (∀ W, Below w.heap.size w W → Calls Tryd.prog 83 #[.slice (some ⟨ad, off, none⟩) (m + 1) c, .int .i64 (p.length : Int)] W (ItemsEnd W (Trie.items t []))) := Lib.hid (fun W hb => by
    have hls : lessW L p.length = Trie.items t [] := by rw [← hL]; exact Trie.less_items t p
    have := ref10_less W (some ⟨ad, off, none⟩) c L ((HR.below hb).more hb.size) (by omega) p.length (fun y hy => by
      rw [← hL] at hy
      have h3 := (Trie.items_short ha y hy).1
      rw [show Trie.items (.ext p t) [] = Trie.items t ([] ++ p) from rfl, Trie.items_pl, List.mem_map] at hy
      obtain ⟨y0, _, rfl⟩ := hy
      simp only [List.nil_append, List.length_append] at h3 ⊢
      omega)
    rw [hls, hLl] at this
    exact this)
  have HCm : Hid (∀ W, Calls Tryd.prog 82 #[.string ⟨x.1.toArray⟩, .string ⟨z.1.toArray⟩] W (Ret W (.int .i64 (p.length : Int)))) := Lib.hid (fun W => by
    have := refnib_Common x.1 z.1 W (by have := hsx.1; omega) (by have := hsz.1; omega)
    rw [hap] at this
    exact this)
  obtain ⟨D0, hD0⟩ := goT_head htn (pl ++ p)
  have HDl := Lib.hid (Trie.goT_short hw.2.2.2 (by omega) allW (pl ++ p))
  have HIH : Hid (∀ (W : World) (A1 : Option Addr) (c1 : Nat), m + 1 ≤ c1 → Reads W W.heap.size 2 A1 (m + 1) (icells (Trie.items t [])) → Calls Tryd.prog 53 #[.slice A1 (m + 1) c1, .string ⟨(pl ++ p).toArray⟩] W (SpotsEnd W (Trie.goT allW t (pl ++ p)))) := Lib.hid (fun W A1 c1 hcc hr => IH W A1 c1 (m + 1) hm.symm hcc hr)
  have HSp : Hid (∀ W A1 c1 n1, n1 = (Trie.goT allW t (pl ++ p)).length → Below w.heap.size w W → Reads W W.heap.size 22 A1 n1 (spv (Trie.goT allW t (pl ++ p))) → Calls Tryd.prog 81 #[.string ⟨pl.toArray⟩, .agg (nodeV 2 p [] (Trie.sumT t :: List.replicate 15 [])).toArray, .slice A1 n1 c1] W (fun e w' => ∃ A n c, e = .returned (.slice A n c) ∧ P (.returned (.slice A n c)) w')) := Lib.hid (fun W A1 c1 n1 hn1 hb hr => by
    subst hn1
    exact (ref10_spot W pl (.ext p t) (by simp) hw ha.small _ HDl.out A1 c1 hr).mono fun e w' ⟨A, c, n, he, h1, h2, h3⟩ => ⟨A, n, c, he, HP.out _ _ ⟨A, c, n, rfl, h1, own_lower h2 hb.size, Below.nxt hb h3⟩⟩)
  have hxt := run_take x.1 p.length (by rw [hxr, List.length_append]; omega)
  rw [show x.1.take p.length = p by rw [hxr]; simp] at hxt
  have HSm : Hid (∀ (W : World) (base : Nat) (A1 : Option Addr) (n1 c1 : Nat), n1 = (Trie.goT allW t (pl ++ p)).length → W.ownsRow base 93 22 (.slice A1 n1 c1) n1 (spv (Trie.goT allW t (pl ++ p))) → ∃ g, A1 = some ⟨g, 0, none⟩ ∧ g < W.heap.size ∧ 0 < n1 ∧ W.cell? ⟨g, 2, none⟩ = some (.string ⟨(Trie.sumT t).toArray⟩)) := Lib.hid (fun W base A1 n1 c1 hn1 hr => by
    have hp : 0 < n1 := by rw [hn1, hD0]; simp
    obtain ⟨g, cap, hv, _, hlt⟩ := hr.form hp
    have hA : A1 = some ⟨g, 0, none⟩ := by injection hv
    subst hA
    refine ⟨g, rfl, hlt, hp, ?_⟩
    have := hr.cells (g := g) rfl 2 (.string ⟨(Trie.sumT t).toArray⟩) (by rw [hD0]; rfl)
    exact this)
  generalize Trie.goT allW t (pl ++ p) = D at *
  have HIl : Hid ((Trie.items t []).length = m + 1) := Lib.hid (by rw [Trie.length_items]; exact hm)
  generalize Trie.items t [] = I at *
  generalize hS : Trie.sumT t = S at *
  obtain ⟨xk, xv⟩ := x
  obtain ⟨zk, zv⟩ := z
  simp only at hxt HCm HCl hsx hsz
  have hx16 := hsx.1
  have hz16 := hsz.1
  clear hcap hw htn h2 hm hL hLl e1 e2 hap hsx hsz hxr HR hcell0 hcellz ez ex hpne hD0 IH HP ha hc hn hS
  obtain ⟨q0, qz⟩ := HCl.out _ (Below.refl _ _)
  have hsum : pl.length + p.length ≤ 9223372036854775807 := by omega
  have hnl : (9223372036854775807 < pl.length + p.length) = False := by simp; omega
  have hgt : (0 : Int) < (p.length : Int) := by omega
  obtain ⟨hm1, hm2⟩ := hm1
  have i0 : (0 : Int) < (m : Int) + 1 := by omega
  have i1 : (1 : Int) ≤ (m : Int) := by omega
  have i2 : (m : Int) ≤ 2000 := by omega
  have i3 : IntKind.i64.wrap (m : Int) = m := IntWalk.i64_in _ (by omega)
  have i4 : IntKind.i64.wrap ((m : Int) + 1 - 1) = m := by rw [Int.add_sub_cancel]; exact i3
  have i5 : (0 : Int) ≤ (m : Int) := by omega
  have i6 : (m : Int) < (m : Int) + 1 := by omega
  go_enter Tryd.func53, Tryd.ntmps53
  go_upto_region 5 with fail
  go_region_held3 (fun w' => w'.cell? ⟨ad, off, none⟩ = some (.string ⟨xk.toArray⟩) ∧ w'.cell? ⟨ad, off + m * 2, none⟩ = some (.string ⟨zk.toArray⟩)) (first | go_keep | (constructor <;> assumption)) ((go_at_call 82; refine (HCm.out _).mono ?_; rintro e w1 ⟨rfl, hb⟩; have B1 : Below w.heap.size w w1 := (by first | exact hb | exact hb.start); obtain ⟨z0, z1⟩ := HCl.out _ B1; clear hb))
  go_upto_region 7 with fail
  clear z1
  go_region_held3 (fun w' => w'.cell? ⟨ad, off, none⟩ = some (.string ⟨xk.toArray⟩)) (first | go_keep | assumption) (first | (go_at_call 83; refine (HLs.out _ (by first | exact B1 | exact B1.drew)).mono ?_; rintro e w2 ⟨A1, n1, c1, rfl, hn1, own1, hb⟩; have B2 : Below w.heap.size w w2 := (by first | exact Below.nxt B1 hb | exact Below.nxt B1.drew hb); have z0 := (HCl.out _ B2).1; obtain rfl : n1 = m + 1 := hn1.trans HIl.out; have OW := Lib.hid own1; have OC : Hid (m + 1 ≤ c1) := Lib.hid (own_cap own1); clear own1 hn1 hb) | (go_at_call 53; refine (HIH.out _ A1 c1 OC.out (Reads.of_own OW.out)).mono ?_; rintro e w3 ⟨A2, c2, n2, rfl, hn2, own2, hb⟩; have B3 : Below w.heap.size w w3 := (by first | exact Below.nxt B2 hb); have z0 := (HCl.out _ B3).1; have OG := Lib.hid (And.intro hn2 own2); clear own2 hn2 hb))
  clear HLs HIH HCm hm1 hm2 hx16 hz16 hsum hnl hgt
  have F0 := Live.ha (Lib.hid (Live.start w3)) #[.int .i64 0, .string ⟨#[]⟩, .string ⟨#[]⟩, .string ⟨#[]⟩, .string ⟨#[]⟩, .string ⟨#[]⟩, .string ⟨#[]⟩, .string ⟨#[]⟩, .string ⟨#[]⟩, .string ⟨#[]⟩, .string ⟨#[]⟩, .string ⟨#[]⟩, .string ⟨#[]⟩, .string ⟨#[]⟩, .string ⟨#[]⟩, .string ⟨#[]⟩, .string ⟨#[]⟩, .string ⟨#[]⟩, .string ⟨#[]⟩] 91
  have TH := F0.out.there 0 19 rfl (by decide)
  have HON : (#[.int .i64 2, .string ⟨p.toArray⟩, .string ⟨#[]⟩, .string ⟨#[]⟩, .string ⟨#[]⟩, .string ⟨#[]⟩, .string ⟨#[]⟩, .string ⟨#[]⟩, .string ⟨#[]⟩, .string ⟨#[]⟩, .string ⟨#[]⟩, .string ⟨#[]⟩, .string ⟨#[]⟩, .string ⟨#[]⟩, .string ⟨#[]⟩, .string ⟨#[]⟩, .string ⟨#[]⟩, .string ⟨#[]⟩, .string ⟨#[]⟩] : Array Value).all (·.oneCell') = true := all_oneCell_toArray (cs := [.int .i64 2, .string ⟨p.toArray⟩, .string ⟨#[]⟩, .string ⟨#[]⟩, .string ⟨#[]⟩, .string ⟨#[]⟩, .string ⟨#[]⟩, .string ⟨#[]⟩, .string ⟨#[]⟩, .string ⟨#[]⟩, .string ⟨#[]⟩, .string ⟨#[]⟩, .string ⟨#[]⟩, .string ⟨#[]⟩, .string ⟨#[]⟩, .string ⟨#[]⟩, .string ⟨#[]⟩, .string ⟨#[]⟩, .string ⟨#[]⟩]) (by simp [Value.oneCell'])
  go_upto_region 9 with (first | (refine wpList_build_eq rfl 91 _ rfl #[.int .i64 2, .string ⟨p.toArray⟩, .string ⟨#[]⟩, .string ⟨#[]⟩, .string ⟨#[]⟩, .string ⟨#[]⟩, .string ⟨#[]⟩, .string ⟨#[]⟩, .string ⟨#[]⟩, .string ⟨#[]⟩, .string ⟨#[]⟩, .string ⟨#[]⟩, .string ⟨#[]⟩, .string ⟨#[]⟩, .string ⟨#[]⟩, .string ⟨#[]⟩, .string ⟨#[]⟩, .string ⟨#[]⟩, .string ⟨#[]⟩] (by simp only [List.map_toArray, List.map_cons, List.map_nil]; kernel_rfl) ?_) | ((with_reducible refine at_store 63 ?_); refine wpList_store_mid rfl 91 _ _ rfl w3.heap.size 0 #[.int .i64 2, .string ⟨p.toArray⟩, .string ⟨#[]⟩, .string ⟨#[]⟩, .string ⟨#[]⟩, .string ⟨#[]⟩, .string ⟨#[]⟩, .string ⟨#[]⟩, .string ⟨#[]⟩, .string ⟨#[]⟩, .string ⟨#[]⟩, .string ⟨#[]⟩, .string ⟨#[]⟩, .string ⟨#[]⟩, .string ⟨#[]⟩, .string ⟨#[]⟩, .string ⟨#[]⟩, .string ⟨#[]⟩, .string ⟨#[]⟩] rfl rfl TH info_node HON ?_))
  have F := Live.hall F0 0 (#[.int .i64 2, .string ⟨p.toArray⟩, .string ⟨#[]⟩, .string ⟨#[]⟩, .string ⟨#[]⟩, .string ⟨#[]⟩, .string ⟨#[]⟩, .string ⟨#[]⟩, .string ⟨#[]⟩, .string ⟨#[]⟩, .string ⟨#[]⟩, .string ⟨#[]⟩, .string ⟨#[]⟩, .string ⟨#[]⟩, .string ⟨#[]⟩, .string ⟨#[]⟩, .string ⟨#[]⟩, .string ⟨#[]⟩, .string ⟨#[]⟩] : Array Value).toList rfl rfl
  clear TH F0 HON
  generalize World.setCells _ w3.heap.size 0 _ = W4 at F ⊢
  obtain ⟨g4, rfl, hlt4, hp4, hs4⟩ := HSm.out w3 _ A2 n2 c2 OG.out.1 OG.out.2
  replace hs4 := (F.out.b.cell (p := ⟨g4, 2, none⟩) hlt4).trans hs4
  have k3 : W4.cell? ⟨w3.heap.size, 3, none⟩ = some (.string ⟨#[]⟩) := F.out.cell 0 3 rfl rfl
  have f3 : W4.frozen? ⟨w3.heap.size, 3, none⟩ = false := F.out.frozen 0 3 rfl
  have n2p : (0 : Int) < (n2 : Int) := by omega
  clear z0
  go_upto_region 10 with fail
  have F := Live.hs F 0 3 (.string ⟨S.toArray⟩) rfl
  generalize W4.setCell ⟨w3.heap.size, 3, none⟩ (.string ⟨S.toArray⟩) = W5 at F ⊢
  replace F : Hid (Live w3 W5 [(w3.heap.size, 91, (nodeV 2 p [] (S :: List.replicate 15 [])).toArray)]) := F
  clear k3 f3 hs4
  have RA := F.out.range1 w3.heap.size 0 rfl
  have SZ : (Tryd.prog.info? 91).map (·.size) = some (nodeV 2 p [] (S :: List.replicate 15 [])).length := by rw [nodeV_size (by simp)]; exact info_node
  have HS5 := Lib.hid (HSp.out W5 (some ⟨g4, 0, none⟩) c2 n2 OG.out.1 (Below.nxt B3 F.out.b) (((Reads.of_own OG.out.2).below F.out.b).more F.out.b.size))
  clear HSp
  generalize (nodeV 2 p [] (S :: List.replicate 15 [])) = NV at *
  go_wp2_with (first | ((with_reducible refine at_load 71 ?_); refine wpList_load_mid rfl 91 _ rfl w3.heap.size 0 rfl _ _ RA Tryd.underlying91 rfl SZ ?_) | (go_at_call 81; refine HS5.out.mono ?_; rintro e w6 ⟨A6, n6, c6, rfl, hp⟩; have HF := Lib.hid hp; clear hp))
  exact HF.out
end Go.Proofs.YtefcmigbdfeaiaaDoor

/- The walks of layer 2 (code): the reader: Read, refused, take, Left. No conditions. -/
namespace Go.Proofs.YtefcmigbdfeaiaaDoor
set_option linter.unusedVariables false
open Go.RowKit Go.Instr
attribute [local go_sem] ba_get ByteArray.mk_append_mk

theorem extract_mid (s : List UInt8) (a n : Nat) : (ByteArray.mk s.toArray).extract a (a + n) = ⟨((s.drop a).take n).toArray⟩ := by
  apply ByteArray.ext
  rw [ByteArray.data_extract]
  show s.toArray.extract a (a + n) = _
  rw [List.extract_toArray]
  simp
/-- a reader in memory -/
def RdB (w : World) (g : Nat) (all : List UInt8) (at_ code : Nat) : Prop := Blk w g 167 #[.string ⟨all.toArray⟩, .int .i64 (at_ : Int), .int .i64 (code : Int)]
theorem RdB.cells {w : World} {g : Nat} {all : List UInt8} {a c : Nat} (h : RdB w g all a c) : w.cell? ⟨g, 0, none⟩ = some (.string ⟨all.toArray⟩) ∧ w.cell? ⟨g, 1, none⟩ = some (.int .i64 (a : Int)) ∧ w.cell? ⟨g, 2, none⟩ = some (.int .i64 (c : Int)) ∧ w.frozen? ⟨g, 1, none⟩ = false ∧ w.frozen? ⟨g, 2, none⟩ = false :=
  ⟨Blk.cell h 0, Blk.cell h 1, Blk.cell h 2, Blk.frozen h 1, Blk.frozen h 2⟩
theorem code_Read (all : List UInt8) (w : World) :
    Calls Tryd.prog 100 #[.string ⟨all.toArray⟩] w fun e w' => e = .returned (.pointer (some ⟨w.heap.size, 0, none⟩)) ∧ w' = w.alloc (.cells #[.string ⟨all.toArray⟩, .int .i64 0, .int .i64 0] 167) := by
  go_enter Tryd.func100, Tryd.ntmps100
  go_wp2
  go_ret
  exact ⟨rfl, rfl⟩
/-- what the reader's methods leave: the reader at a place, with a code; nothing else is written -/
def RdEnd (w : World) (g : Nat) (all : List UInt8) (v : Value) (at_ code : Nat) (e : Ending) (w' : World) : Prop := e = .returned v ∧ RdB w' g all at_ code ∧ w.grownBy w' (some g)
theorem code_refused (w : World) (g : Nat) (all : List UInt8) (a c : Nat) (h : RdB w g all a c) (from_ e : Nat) :
    Calls Tryd.prog 127 #[.pointer (some ⟨g, 0, none⟩), .int .i64 (from_ : Int), .int .i64 (e : Int)] w (RdEnd w g all (.tuple #[]) (if c = 0 then from_ else a) (if c = 0 then e else c)) := by
  obtain ⟨c0, c1, c2, f1, f2⟩ := h.cells
  have HH := Lib.hid h
  by_cases hc : c = 0
  · subst hc
    rw [if_pos rfl, if_pos rfl]
    have HP : Hid (∀ w', RdB w' g all from_ e → w.grownBy w' (some g) → RdEnd w g all (.tuple #[]) from_ e (.returned (.tuple #[])) w') := Lib.hid (fun w' a b => ⟨rfl, a, b⟩)
    generalize RdEnd w g all (.tuple #[]) from_ e = P at HP ⊢
    clear h
    go_enter Tryd.func127, Tryd.ntmps127
    go_wp2
    go_end0
    refine HP.out _ ?_ ?_
    · exact (Blk.set_ (Blk.set_ HH.out 1 (.int .i64 (from_ : Int))) 2 (.int .i64 (e : Int)))
    · exact grown_set0 (grown_set0 (World.grownBy.refl _ _) _ _) _ _
  · rw [if_neg hc, if_neg hc]
    have HP : Hid (∀ w', RdB w' g all a c → w.grownBy w' (some g) → RdEnd w g all (.tuple #[]) a c (.returned (.tuple #[])) w') := Lib.hid (fun w' a b => ⟨rfl, a, b⟩)
    generalize RdEnd w g all (.tuple #[]) a c = P at HP ⊢
    have hc1 : ((c : Int) == 0) = false := by simp; exact hc
    clear h hc
    go_enter Tryd.func127, Tryd.ntmps127
    go_wp2
    go_end0
    exact HP.out _ HH.out (World.grownBy.refl _ _)
theorem code_Left (w : World) (g : Nat) (all : List UInt8) (a c : Nat) (h : RdB w g all a c) (hl : all.length ≤ 1000000) (ha : a ≤ all.length) :
    Calls Tryd.prog 129 #[.pointer (some ⟨g, 0, none⟩)] w (RdEnd w g all (.int .i64 ((all.length - a : Nat) : Int)) a c) := by
  obtain ⟨c0, c1, c2, f1, f2⟩ := h.cells
  have HH := Lib.hid h
  have hv : IntKind.i64.wrap ((all.length : Int) - a) = ((all.length - a : Nat) : Int) := by rw [IntWalk.i64_in _ (by omega)]; omega
  have HP : Hid (∀ w', RdB w' g all a c → w.grownBy w' (some g) → RdEnd w g all (.int .i64 ((all.length - a : Nat) : Int)) a c (.returned (.int .i64 ((all.length - a : Nat) : Int))) w') := Lib.hid (fun w' a b => ⟨rfl, a, b⟩)
  generalize RdEnd w g all (.int .i64 ((all.length - a : Nat) : Int)) a c = P at HP ⊢
  generalize ((all.length - a : Nat) : Int) = d at *
  clear h
  go_enter Tryd.func129, Tryd.ntmps129
  go_wp2
  go_quiet (fail)
  go_wp2
  exact HP.out _ HH.out ⟨rfl, rfl, rfl, Nat.le_refl _, fun _ _ _ => rfl⟩
set_option maxHeartbeats 1000000 in
theorem code_take (w : World) (g : Nat) (all : List UInt8) (a c : Nat) (h : RdB w g all a c) (hl : all.length ≤ 1000000) (ha : a ≤ all.length) (n : Nat) (hn : n < 9223372036854775808) :
    Calls Tryd.prog 139 #[.pointer (some ⟨g, 0, none⟩), .int .i64 (n : Int)] w (RdEnd w g all (.tuple #[.string ⟨(if n ≤ (all.drop a).length then (all.drop a).take n else []).toArray⟩, .bool (decide (n ≤ (all.drop a).length))]) (if n ≤ (all.drop a).length then a + n else a) c) := by
  obtain ⟨c0, c1, c2, f1, f2⟩ := h.cells
  have HH := Lib.hid h
  have hv : IntKind.i64.wrap ((all.length : Int) - a) = (all.length : Int) - a := IntWalk.i64_in _ (by omega)
  rw [List.length_drop]
  by_cases hle : n ≤ all.length - a
  · rw [if_pos hle, if_pos hle, decide_eq_true hle]
    have HP : Hid (∀ w', RdB w' g all (a + n) c → w.grownBy w' (some g) → RdEnd w g all (.tuple #[.string ⟨((all.drop a).take n).toArray⟩, .bool true]) (a + n) c (.returned (.tuple #[.string ⟨((all.drop a).take n).toArray⟩, .bool true])) w') := Lib.hid (fun w' a b => ⟨rfl, a, b⟩)
    generalize RdEnd w g all (.tuple #[.string ⟨((all.drop a).take n).toArray⟩, .bool true]) (a + n) c = P at HP ⊢
    have hgt : ((all.length : Int) - a < n) = False := by simp; omega
    have hv2 : IntKind.i64.wrap ((a : Int) + n) = (a : Int) + n := IntWalk.i64_in _ (by omega)
    have hr : ∀ W, (Instr.slice 9 (.string ⟨all.toArray⟩) (some (.int .i64 (a : Int))) (some (.int .i64 ((a : Int) + n))) none).run Tryd.prog W = .ok (.string ⟨((all.drop a).take n).toArray⟩) W := fun W => by
      have := run_slice_string_if (P := Tryd.prog) (w := W) 9 ⟨all.toArray⟩ .i64 .i64 (a : Int) ((a : Int) + n) Tryd.underlying9
      rw [if_pos ⟨by omega, by show (a : Int) + n ≤ (all.toArray.size : Nat); simp; omega⟩, if_pos ⟨by omega, by omega⟩] at this
      rwa [show ((a : Int)).toNat = a by omega, show ((a : Int) + n).toNat = a + n by omega, extract_mid] at this
    have hs0 : (a : Int) + n ≤ 1000000 := by omega
    clear h hle
    generalize (all.drop a).take n = piece at *
    go_enter Tryd.func139, Tryd.ntmps139
    go_wp2
    go_quiet (fail)
    go_wp2
    go_quiet (fail)
    go_wp2
    exact HP.out _ (Blk.set_ HH.out 1 (.int .i64 ((a : Int) + n))) (grown_set0 (only_drewN (World.grownBy.refl _ _) _) _ _)
  · rw [if_neg hle, if_neg hle, decide_eq_false hle]
    have HP : Hid (∀ w', RdB w' g all a c → w.grownBy w' (some g) → RdEnd w g all (.tuple #[.string ⟨[].toArray⟩, .bool false]) a c (.returned (.tuple #[.string ⟨#[]⟩, .bool false])) w') := Lib.hid (fun w' a b => ⟨rfl, a, b⟩)
    generalize RdEnd w g all (.tuple #[.string ⟨[].toArray⟩, .bool false]) a c = P at HP ⊢
    have hgt : ((all.length : Int) - a < n) = True := by simp; omega
    clear h hle
    go_enter Tryd.func139, Tryd.ntmps139
    go_wp2
    go_quiet (fail)
    go_wp2
    exact HP.out _ HH.out ⟨rfl, rfl, rfl, Nat.le_refl _, fun _ _ _ => rfl⟩
end Go.Proofs.YtefcmigbdfeaiaaDoor
