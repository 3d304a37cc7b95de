import Derived.Test.YtefcmigbdfeaiaaDoorJ48
import Derived.Test.YtefcmigbdfeaiaaDoorJ42
import Derived.Test.YtefcmigbdfeaiaaDoorJ35
import Derived.Test.YtefcmigbdfeaiaaDoorJ44
set_option linter.unusedSimpArgs false
set_option linter.unusedVariables false
/- The walks of layer 13 (proof): keyed, Verify, Prove. No conditions. -/
namespace Go.Proofs.YtefcmigbdfeaiaaDoor
set_option linter.unusedVariables false
open Go.RowKit Go.Instr
attribute [local go_sem] ba_get ByteArray.mk_append_mk
theorem proof_keyed (key : List UInt8) (hk : key.length ≤ 9223372036854775807) (w : World) :
    Calls Tryd.prog 69 #[.string ⟨key.toArray⟩] w fun e w' => e = .returned (.bool (Trie.keyedW key)) ∧ w = w' := by
  have HP : Hid (∀ b w', Trie.keyedW key = b → w = w' → (fun e w' => e = Ending.returned (.bool (Trie.keyedW key)) ∧ w = w') (Ending.returned (.bool b)) w') := Lib.hid (fun b w' h1 h2 => ⟨by rw [h1], h2⟩)
  generalize (fun e w' => e = Ending.returned (.bool (Trie.keyedW key)) ∧ w = w') = P at HP ⊢
  cases key with
  | nil =>
    go_enter Tryd.func69, Tryd.ntmps69
    go_wp2
    exact HP.out _ _ rfl rfl
  | cons a r =>
    have ne1 : ((a :: r).toArray = #[]) = False := by simp
    by_cases h8 : (a :: r).length ≤ 8
    · have HR : Hid (Trie.keyedW (a :: r) = true) := Lib.hid (by simp [Trie.keyedW]; simpa using h8)
      have e8 : ((a :: r).length : Int) ≤ 8 := by omega
      have ne2 : (a :: r).isEmpty = false := rfl
      clear h8
      generalize ha : (a :: r) = l at *
      clear ha
      go_enter Tryd.func69, Tryd.ntmps69
      go_wp2
      exact HP.out _ _ HR.out rfl
    · have HR : Hid (Trie.keyedW (a :: r) = false) := Lib.hid (by simp [Trie.keyedW]; simp at h8; omega)
      have e8 : (((a :: r).length : Int) ≤ 8) = False := by simp at h8 ⊢; omega
      have ne2 : (a :: r).isEmpty = false := rfl
      clear h8
      generalize ha : (a :: r) = l at *
      clear ha
      go_enter Tryd.func69, Tryd.ntmps69
      go_wp2
      exact HP.out _ _ HR.out rfl
def VerEnd (w : World) (r : List UInt8 × Bool × Nat) (e : Ending) (w' : World) : Prop := e = .returned (.tuple #[.string ⟨r.1.toArray⟩, .bool r.2.1, .int .i64 (r.2.2 : Int)]) ∧ Below w.heap.size w w'
theorem keyed_short {key : List UInt8} (h : Trie.keyedW key = true) : key.length ≤ 8 := by
  unfold Trie.keyedW at h
  simp at h
  exact h.2
set_option maxRecDepth 100000 in
set_option maxHeartbeats 1000000 in
theorem proof_Verify (w : World) (root key : List UInt8) (hk : key.length ≤ 9223372036854775807) (nodes : List (List UInt8)) (A : Option Addr) (c : Nat) (HR : Reads w w.heap.size 1 A nodes.length (strv nodes)) (hn : nodes.length ≤ 100000) (hs : ∀ x ∈ nodes, x.length ≤ 999999) (hT : Tbl w) :
    Calls Tryd.prog 40 #[.string ⟨root.toArray⟩, .string ⟨key.toArray⟩, .slice A nodes.length c] w (VerEnd w (verifyW root key nodes)) := by
  have HP : Hid (∀ (v : List UInt8) b (cd : Nat) w', verifyW root key nodes = (v, b, cd) → Below w.heap.size w w' → VerEnd w (verifyW root key nodes) (.returned (.tuple #[.string ⟨v.toArray⟩, .bool b, .int .i64 (cd : Int)])) w') := Lib.hid (fun v b t w' e h => by rw [e]; exact ⟨rfl, h⟩)
  have HX : Hid (verifyW root key nodes = if Trie.keyedW key = false then ([], false, 1)
  else if root = [] then (if nodes = [] then ([], false, 0) else ([], false, 130))
  else if (followW root (Nib.of key) nodes 0).2.2 = true ∧ (followW root (Nib.of key) nodes 0).2.1 = nodes.length then ((followW root (Nib.of key) nodes 0).1, decide ((followW root (Nib.of key) nodes 0).1 ≠ []), 0)
  else ([], false, 130)) := Lib.hid rfl
  generalize VerEnd w (verifyW root key nodes) = P at HP ⊢
  generalize verifyW root key nodes = X at *
  have HKy := Lib.hid (proof_keyed key hk w)
  cases hkey : Trie.keyedW key with
  | false =>
    rw [if_pos hkey] at HX
    rw [hkey] at HKy
    clear HR hs hT
    go_enter Tryd.func40, Tryd.ntmps40
    go_wp2_with fail
    refine HKy.out.mono ?_
    rintro e w1 ⟨rfl, rfl⟩
    go_wp2_with fail
    exact HP.out _ _ 1 _ HX.out (Below.refl _ _)
  | true =>
    rw [if_neg (by simp [hkey])] at HX
    rw [hkey] at HKy
    have hk8 := keyed_short hkey
    by_cases hr : root = []
    · subst hr
      rw [if_pos rfl] at HX
      clear HR hs hT
      by_cases hnn : nodes = []
      · subst hnn
        rw [if_pos rfl] at HX
        go_enter Tryd.func40, Tryd.ntmps40
        go_wp2_with fail
        refine HKy.out.mono ?_
        rintro e w1 ⟨rfl, rfl⟩
        go_wp2_with fail
        exact HP.out _ _ 0 _ HX.out (Below.refl _ _)
      · rw [if_neg hnn] at HX
        have hpos : (0 : Int) < nodes.length := by have := List.length_pos_iff.2 hnn; omega
        clear hnn
        go_enter Tryd.func40, Tryd.ntmps40
        go_wp2_with fail
        refine HKy.out.mono ?_
        rintro e w1 ⟨rfl, rfl⟩
        go_wp2_with fail
        exact HP.out _ _ 130 _ HX.out (Below.refl _ _)
    · rw [if_neg hr] at HX
      have ne1 : (root.toArray = #[]) = False := by simp [hr]
      have ne2 : root.isEmpty = false := by simp [hr]
      have HOf := Lib.hid (fun W => nib_Of key W (by omega))
      have HFo : Hid (∀ W, Below w.heap.size w W → Calls Tryd.prog 71 #[.string ⟨root.toArray⟩, .string ⟨(Nib.of key).toArray⟩, .slice A nodes.length c] W (FollowEnd W (followW root (Nib.of key) nodes 0))) := Lib.hid (fun W hW =>
        proof_follow W root (Nib.of key) nodes A c ((HR.below hW).more hW.size) hn hs (by rw [Nib.of_length]; omega) (Nib.fit_of key) (hT.next hW))
      have hle := followW_le nodes root (Nib.of key) 0
      generalize followW root (Nib.of key) nodes 0 = fr at *
      obtain ⟨v, t, b⟩ := fr
      simp only at HX HFo hle
      unfold FollowEnd at HFo
      simp only at HFo
      generalize Nib.of key = q at *
      clear HR hs hT hr hk hn hk8 hkey
      go_enter Tryd.func40, Tryd.ntmps40
      go_wp2_with fail
      refine HKy.out.mono ?_
      rintro e w1 ⟨rfl, rfl⟩
      go_wp2_with fail
      refine (HOf.out _).mono ?_
      rintro e w2 ⟨rfl, hb2⟩
      have HB2 := Lib.hid hb2
      clear hb2
      go_wp2_with fail
      refine (HFo.out _ HB2.out).mono ?_
      rintro e w3 ⟨rfl, hb3⟩
      have HB3 := Lib.hid (HB2.out.nxt hb3)
      clear hb3 HKy HOf HFo
      cases b with
      | false =>
        rw [if_neg (by simp)] at HX
        go_wp2_with fail
        exact HP.out _ _ 130 _ HX.out HB3.out
      | true =>
        by_cases ht : t = nodes.length
        · rw [if_pos ⟨rfl, ht⟩] at HX
          have htI : ((t : Int) != (nodes.length : Int)) = false := by simp; omega
          by_cases hv : v = []
          · subst hv
            clear ht hle
            go_wp2_with fail
            exact HP.out _ _ 0 _ HX.out HB3.out
          · rw [decide_eq_true (show v ≠ [] from hv)] at HX
            have ne3 : (v.toArray = #[]) = False := by simp [hv]
            have ne4 : v.isEmpty = false := by simp [hv]
            clear ht hle hv
            go_wp2_with fail
            exact HP.out _ _ 0 _ HX.out HB3.out
        · rw [if_neg (fun h => ht h.2)] at HX
          have htI : ((t : Int) != (nodes.length : Int)) = true := by simp; omega
          clear ht hle
          go_wp2_with fail
          exact HP.out _ _ 130 _ HX.out HB3.out
/-- texts, new in memory, and a code -/
def TextsCEnd (w : World) (r : List (List UInt8) × Nat) (e : Ending) (w' : World) : Prop :=
  ∃ A n c, e = .returned (.tuple #[.slice A n c, .int .i64 (r.2 : Int)]) ∧ n = r.1.length ∧ w'.ownsRow w.heap.size 9 1 (.slice A n c) n (strv r.1) ∧ Below w.heap.size w w'
def proveW (t : Trie.T) (key : List UInt8) : List (List UInt8) × Nat := if Trie.keyedW key then (toldW (trailW (Nib.of key)) t, 0) else ([], 1)
set_option maxRecDepth 100000 in
set_option maxHeartbeats 1000000 in
theorem proof_Prove (w : World) (t : Trie.T) (v : Value) (h : TrieP w t v) (hc : Trie.count t ≤ 20000) (key : List UInt8) (hk : key.length ≤ 9223372036854775807) :
    Calls Tryd.prog 36 #[v, .string ⟨key.toArray⟩] w (TextsCEnd w (proveW t key)) := by
  have HP : Hid (∀ l (cd : Nat), proveW t key = (l, cd) → ∀ A n c w', n = l.length → w'.ownsRow w.heap.size 9 1 (.slice A n c) n (strv l) → Below w.heap.size w w' → TextsCEnd w (proveW t key) (.returned (.tuple #[.slice A n c, .int .i64 (cd : Int)])) w') := Lib.hid (fun l cd e A n c w' h1 h2 h3 => by rw [e]; exact ⟨A, n, c, rfl, h1, h2, h3⟩)
  generalize TextsCEnd w (proveW t key) = P at HP ⊢
  have HKy := Lib.hid (proof_keyed key hk w)
  have HT := Lib.hid h
  cases hkey : Trie.keyedW key with
  | false =>
    have HE : Hid (proveW t key = ([], 1)) := Lib.hid (by unfold proveW; rw [if_neg (by simp [hkey])])
    rw [hkey] at HKy
    clear h
    go_enter Tryd.func36, Tryd.ntmps36
    go_wp2_with fail
    refine HKy.out.mono ?_
    rintro e w1 ⟨rfl, rfl⟩
    go_wp2_with fail
    exact HP.out [] 1 HE.out none 0 0 _ rfl (World.ownsRow_nil _ _ _ _) (Below.refl _ _)
  | true =>
    have HE : Hid (proveW t key = (toldW (trailW (Nib.of key)) t, 0)) := Lib.hid (by unfold proveW; rw [if_pos hkey])
    rw [hkey] at HKy
    have HTr := Lib.hid (trie_Trail w t v h hc key (by have := keyed_short hkey; omega))
    generalize toldW (trailW (Nib.of key)) t = l at *
    clear h
    go_enter Tryd.func36, Tryd.ntmps36
    go_wp2_with fail
    refine HKy.out.mono ?_
    rintro e w1 ⟨rfl, rfl⟩
    go_wp2_with fail
    refine HTr.out.mono ?_
    rintro e w2 ⟨A, n, c, rfl, h1, h2, h3⟩
    have HH := Lib.hid (And.intro h1 (And.intro h2 h3))
    clear h1 h2 h3
    go_wp2_with fail
    exact HP.out l 0 HE.out A n c _ HH.out.1 HH.out.2.1 HH.out.2.2
end Go.Proofs.YtefcmigbdfeaiaaDoor

/- Layer 13's laws: some, works. No conditions. -/
namespace Go.Proofs.YtefcmigbdfeaiaaDoor
set_option linter.unusedVariables false
open Go.RowKit Go.Instr
attribute [local go_sem] ba_get ByteArray.mk_append_mk
attribute [local go_sem ↓] Go.wp_at_zero Go.wp_at_succ
/-- a trie of items, those that are refused left out -/
def someT : Trie.T → List Trie.KV → Trie.T
  | t, [] => t
  | t, x :: l => someT (if Trie.putCode x.1 x.2 = 0 then Trie.put t (Nib.of x.1) x.2 else t) l
def fewT (L : List Trie.KV) : Trie.T := someT .nil (L.take 20)
theorem someT_good : ∀ (l : List Trie.KV) (t : Trie.T), Trie.Good t → Trie.Good (someT t l) ∧ Trie.count (someT t l) ≤ Trie.count t + l.length
  | [], t, h => ⟨h, by simp [someT]⟩
  | x :: l, t, h => by
    unfold someT
    by_cases hp : Trie.putCode x.1 x.2 = 0
    · rw [if_pos hp]
      obtain ⟨a1, a2, a3⟩ := Trie.putCode_zero hp
      obtain ⟨b1, b2⟩ := someT_good l _ (Trie.Good.put h a1 a2 a3)
      have := Trie.count_put t (Nib.of x.1) x.2
      exact ⟨b1, by rw [List.length_cons]; omega⟩
    · rw [if_neg hp]
      obtain ⟨b1, b2⟩ := someT_good l t h
      exact ⟨b1, by rw [List.length_cons]; omega⟩
theorem fewT_good (L : List Trie.KV) : Trie.Good (fewT L) ∧ Trie.count (fewT L) ≤ 20 := by
  obtain ⟨h1, h2⟩ := someT_good (L.take 20) .nil Trie.Good.nil
  refine ⟨h1, Nat.le_trans h2 ?_⟩
  have := List.length_take (i := 20) (l := L)
  simp [Trie.count]
  omega
def SomeEnd (w : World) (t : Trie.T) (e : Ending) (w' : World) : Prop :=
  ∃ v A n c, e = .returned (.tuple #[v, .slice A n c]) ∧ TrieP w' t v ∧ n = (Trie.itemsW t).length ∧ n ≤ c ∧ w'.ownsRow w.heap.size 26 2 (.slice A n c) n (icells (Trie.itemsW t)) ∧ Below w.heap.size w w'
set_option maxRecDepth 100000 in
set_option maxHeartbeats 2000000 in
theorem law13_some (w : World) (L : List Trie.KV) (hs : ∀ x ∈ L, x.1.length ≤ 9223372036854775807 ∧ x.2.length ≤ 9223372036854775807) (A : Option Addr) (cp : Nat) (HR : Reads w w.heap.size 2 A L.length (icells L)) (hT : Tbl w) :
    Calls Tryd.prog 35 #[.slice A L.length cp] w (SomeEnd w (fewT L)) := by
  have HP : Hid (∀ v A n c w', TrieP w' (fewT L) v → n = (Trie.itemsW (fewT L)).length → n ≤ c → w'.ownsRow w.heap.size 26 2 (.slice A n c) n (icells (Trie.itemsW (fewT L))) → Below w.heap.size w w' → SomeEnd w (fewT L) (.returned (.tuple #[v, .slice A n c])) w') := Lib.hid (fun v A n c w' h1 h2 h3 h4 h5 => ⟨v, A, n, c, rfl, h1, h2, h3, h4, h5⟩)
  have HX : Hid (fewT L = someT .nil ((L.take 20).drop 0)) := Lib.hid rfl
  generalize SomeEnd w (fewT L) = P at HP ⊢
  generalize fewT L = X at *
  have HRR := Lib.hid HR
  have HS := Lib.hid hs
  have HTb := Lib.hid hT
  clear HR hs hT
  go_enter Tryd.func35, Tryd.ntmps35
  go_wp2_with (go_at_call 49; refine (trie_New _).mono ?_; rintro e w1 ⟨v0, rfl, hk0, hb0⟩; have H0 := Lib.hid (And.intro hk0 hb0); clear hk0 hb0)
  refine wp_loop_ghost_k (fun k a wr => ∀ Φ : Act → Prop, (∀ (s1 s2 s3 s7 s8 s9 s10 s11 s12 s13 s14 s15 s16 s17 s18 s19 s20 s21 s22 s23 s24 s25 s26 s27 s28 s29 s30 s31 s32 s33 s34 s35 s36 s37 s38 s39 s40 s41 s42 s43 s44 s45 s46 s47 s48 s49 s50 s51 s52 s53 s54 s55 s56 s57 s58 : Value) (i n c2 : Nat) (O : Option Addr) (t : Trie.T) (v : Value), (i + k = L.length ∧ i ≤ 20 ∧ X = someT t ((L.take 20).drop i) ∧ Trie.count t ≤ i ∧ TrieP wr t v ∧ n = (Trie.itemsW t).length ∧ n ≤ c2 ∧ wr.ownsRow w.heap.size 26 2 (.slice O n c2) n (icells (Trie.itemsW t)) ∧ Below w.heap.size w wr) → Φ { tmps := #[.slice A L.length cp, s1, s2, s3, v, .slice O n c2, .int .i64 (i : Int), s7, s8, s9, s10, s11, s12, s13, s14, s15, s16, s17, s18, s19, s20, s21, s22, s23, s24, s25, s26, s27, s28, s29, s30, s31, s32, s33, s34, s35, s36, s37, s38, s39, s40, s41, s42, s43, s44, s45, s46, s47, s48, s49, s50, s51, s52, s53, s54, s55, s56, s57, s58], defers := [] }) → Φ a) (L.length) ?_ ?_
  · refine fun Φ hΦ => hΦ _ _ _ _ _ _ _ _ _ _ _ _ _ _ _ _ _ _ _ _ _ _ _ _ _ _ _ _ _ _ _ _ _ _ _ _ _ _ _ _ _ _ _ _ _ _ _ _ _ _ _ _ _ _ _ (0) (0) (0) (none) (.nil) (v0) ?_
    exact ⟨by omega, by omega, HX.out, by simp [Trie.count], H0.out.1, rfl, Nat.le_refl _, World.ownsRow_nil _ _ _ _, H0.out.2⟩
  · intro k1 a1 wr1 hI1 J1 K1 hJ1 hK1
    refine hI1 (fun a => Code.wp _ _ _ a _) ?_
    clear hI1 a1
    intro s0 s1 s2 s3 s4 s5 s6 s7 s8 s9 s10 s11 s12 s13 s14 s15 s16 s17 s18 s19 s20 s21 s22 s23 s24 s25 s26 s27 s28 s29 s30 s31 s32 s33 s34 s35 s36 s37 s38 s39 s40 s41 s42 s43 s44 s45 s46 s47 s48 s49 s50 s51 s52 s53 s54 i n c2 O t v hrel
    show Code.wp _ _ _ _ _
    clear HX H0
    obtain ⟨h1, hi20, h2, h3, hk, hnl, hnc, own, hb⟩ := hrel
    by_cases hi : i < L.length ∧ i < 20
    · obtain ⟨ad, off, rfl, hbl, hcell⟩ := item_read HRR.out hi.1
      obtain ⟨r0, r1⟩ := hcell _ hb
      have hlt : i < (L.take 20).length := by rw [List.length_take]; omega
      have hd : (L.take 20).drop i = L[i]'hi.1 :: (L.take 20).drop (i + 1) := by
        rw [List.drop_eq_getElem_cons hlt, List.getElem_take]
      rw [hd, someT] at h2
      have hlen := HS.out _ (List.getElem_mem hi.1)
      have hi1 : (i : Int) < L.length := by omega
      have hi2 : (i : Int) < 20 := by omega
      have hi0 : (0 : Int) ≤ i := by omega
      have HIl : Hid ((Trie.itemsW t).length ≤ 1000) := Lib.hid (by rw [itemsW_len]; omega)
      have HCell := Lib.hid hcell
      have HI := Lib.hid (And.intro h1 (And.intro h3 hi.2))
      have HX := Lib.hid h2
      have HK := Lib.hid hk
      have OW := Lib.hid (And.intro own (And.intro hnc hb))
      have HRd : Hid (∀ W, Below wr1.heap.size wr1 W → Reads W W.heap.size 2 O (Trie.itemsW t).length (icells (Trie.itemsW t))) := Lib.hid (fun W hW => by rw [← hnl]; exact ((Reads.of_own own).below hW).more hW.size)
      have hg := hk.1
      clear h1 h2 h3 hk hd hnc own hb hcell hbl hi20
      generalize L[i] = x at *
      clear hi hlt
      obtain ⟨key, value⟩ := x
      simp only at r0 r1 HCell HX hlen
      have HPut : Hid (∀ W, Below wr1.heap.size wr1 W → Calls Tryd.prog 51 #[.slice O n c2, .string ⟨key.toArray⟩, .string ⟨value.toArray⟩] W (PutIEnd W (Trie.rput (Trie.itemsW t) key value))) := Lib.hid (fun W hW => by
        have := ref10_Put W O c2 (Trie.itemsW t) (HRd.out W hW) (by rw [← hnl]; exact OW.out.2.1) HIl.out key value hlen.1 hlen.2
        rwa [← hnl] at this)
      have HTPut : Hid (∀ W, Below wr1.heap.size wr1 W → Calls Tryd.prog 50 #[v, .string ⟨key.toArray⟩, .string ⟨value.toArray⟩] W (TPutEnd W (Trie.put t (Nib.of key) value) (Trie.putCode key value))) := Lib.hid (fun W hW =>
        trie_Put W t v (HK.out.next hW) (by have := HI.out.2.1; have := HI.out.2.2; omega) (HTb.out.next (OW.out.2.2.nxt hW)) key value hlen.1 hlen.2)
      obtain ⟨p1, p2⟩ := Trie.rput_put hg key value
      have HP2 := Lib.hid p2
      have HN := Lib.hid hnl
      clear hnl hlen hg
      generalize hrp : Trie.rput (Trie.itemsW t) key value = rp at *
      obtain ⟨lp, pc⟩ := rp
      simp only at p1
      subst p1
      clear hrp
      unfold PutIEnd at HPut
      simp only at HPut HP2
      have HCn := Lib.hid (Trie.count_put t (Nib.of key) value)
      obtain ⟨_, b0, x0, rfl, _⟩ := id HK.out
      go_upto_region 6 with fail
      go_region_held3 (fun w' => w'.cell? ⟨ad, off + i * 2, none⟩ = some (.string ⟨key.toArray⟩) ∧ w'.cell? ⟨ad, off + i * 2 + 1, none⟩ = some (.string ⟨value.toArray⟩)) (first | go_keep | (constructor <;> assumption)) ((go_at_call 51; refine (HPut.out _ (by first | exact Below.refl _ _ | exact (Below.refl _ _).drew)).mono ?_; rintro e w4 ⟨A4, n4, c4, rfl, hn4, hc4, own4, hb⟩; have HN4 := Lib.hid hn4; clear hn4; have hb4 : Below wr1.heap.size wr1 w4 := (by first | exact hb | exact hb.start); have own4' : w4.ownsRow wr1.heap.size 26 2 (.slice A4 n4 c4) n4 (icells lp) := (by first | exact own4); clear hb own4; obtain ⟨d0, d1⟩ := HCell.out _ (OW.out.2.2.nxt hb4)))
      have HB4 := Lib.hid (And.intro HN4.out (And.intro hc4 (And.intro (own_lower own4' OW.out.2.2.size) (OW.out.2.2.nxt hb4))))
      have C4 := Lib.hid hb4
      clear HN4 hc4 own4' hb4 r0 r1
      by_cases hpc : Trie.putCode key value = 0
      · rw [if_pos hpc] at HX
        have hl2 := HP2.out hpc
        rw [hl2] at HB4
        rw [hpc] at HTPut ⊢
        clear hpc hl2 HP2 HPut
        generalize Trie.put t (Nib.of key) value = t2 at *
        go_upto_region 9 with fail
        go_region_held3 (fun w' => w'.cell? ⟨ad, off + i * 2, none⟩ = some (.string ⟨key.toArray⟩) ∧ w'.cell? ⟨ad, off + i * 2 + 1, none⟩ = some (.string ⟨value.toArray⟩)) (first | go_keep | (constructor <;> assumption)) ((go_at_call 50; refine (HTPut.out _ (by first | exact C4.out | exact C4.out.drew)).mono ?_; rintro e w5 ⟨v5, rfl, hb, hk5, hn5⟩; have hb5 : Below w4.heap.size w4 w5 := (by first | exact hb | exact hb.start); clear hb; obtain ⟨d0, d1⟩ := HCell.out _ ((OW.out.2.2.nxt C4.out).nxt hb5)))
        have HK5 := Lib.hid (hk5 (by first | exact trivial | rfl))
        have HB5 := Lib.hid hb5
        clear hk5 hn5 hb5 d0 d1
        go_wp2_with fail
        refine Handed.intro (L.length - (i + 1)) ?_ (hJ1 _ _ _ (fun Φ hΦ => hΦ _ _ _ _ _ _ _ _ _ _ _ _ _ _ _ _ _ _ _ _ _ _ _ _ _ _ _ _ _ _ _ _ _ _ _ _ _ _ _ _ _ _ _ _ _ _ _ _ _ _ _ _ _ _ _ (i + 1) (n4) (c4) (A4) (t2) (v5) ?_))
        · have := HI.out.1; omega
        · exact ⟨by have := HI.out.1; omega, by have := HI.out.2.2; omega, HX.out, by have := HCn.out; have := HI.out.2.1; omega, HK5.out, HB4.out.1, HB4.out.2.1, own_below HB4.out.2.2.1 HB5.out, HB4.out.2.2.2.nxt HB5.out⟩
      · rw [if_neg hpc] at HX
        have hpI : ((Trie.putCode key value : Int) != 0) = true := by simp; exact hpc
        clear hpc HP2 HPut HTPut d0 d1
        generalize Trie.putCode key value = pc at *
        go_wp2_with fail
        refine Handed.intro (L.length - (i + 1)) ?_ (hJ1 _ _ _ (fun Φ hΦ => hΦ _ _ _ _ _ _ _ _ _ _ _ _ _ _ _ _ _ _ _ _ _ _ _ _ _ _ _ _ _ _ _ _ _ _ _ _ _ _ _ _ _ _ _ _ _ _ _ _ _ _ _ _ _ _ _ (i + 1) (n) (c2) (O) (t) ((Value.pointer (some ⟨b0, 0, none⟩))) ?_))
        · have := HI.out.1; omega
        · exact ⟨by have := HI.out.1; omega, by have := HI.out.2.2; omega, HX.out, by have := HI.out.2.1; omega, HK.out.next C4.out, HN.out, OW.out.2.1, own_below OW.out.1 C4.out, HB4.out.2.2.2⟩
    · have HE : Hid (X = t) := Lib.hid (by
        rw [h2, List.drop_of_length_le (by rw [List.length_take]; omega)]
        rfl)
      have HH := Lib.hid (And.intro hk (And.intro hnl (And.intro hnc (And.intro own hb))))
      have hcnd : ((i : Int) < L.length) = False ∨ ((i : Int) < 20) = False := by
        by_cases h : i < L.length
        · right; simp; omega
        · left; simp; omega
      clear h1 h2 h3 hk hnl hnc own hb
      rcases hcnd with hc1 | hc1
      · go_wp2_with fail
        exact HP.out _ _ _ _ _ (by rw [HE.out]; exact HH.out.1) (by rw [HE.out]; exact HH.out.2.1) HH.out.2.2.1 (by rw [HE.out]; exact HH.out.2.2.2.1) HH.out.2.2.2.2
      · by_cases hl : i < L.length
        · have hl2 : (i : Int) < L.length := by omega
          clear hl hi
          go_wp2_with fail
          exact HP.out _ _ _ _ _ (by rw [HE.out]; exact HH.out.1) (by rw [HE.out]; exact HH.out.2.1) HH.out.2.2.1 (by rw [HE.out]; exact HH.out.2.2.2.1) HH.out.2.2.2.2
        · have hl2 : ((i : Int) < L.length) = False := by simp; omega
          clear hl hi
          go_wp2_with fail
          exact HP.out _ _ _ _ _ (by rw [HE.out]; exact HH.out.1) (by rw [HE.out]; exact HH.out.2.1) HH.out.2.2.1 (by rw [HE.out]; exact HH.out.2.2.2.1) HH.out.2.2.2.2
end Go.Proofs.YtefcmigbdfeaiaaDoor

/- Layer 13's laws: works. No conditions. -/
namespace Go.Proofs.YtefcmigbdfeaiaaDoor
set_option linter.unusedVariables false
open Go.RowKit Go.Instr
attribute [local go_sem] ba_get ByteArray.mk_append_mk
attribute [local go_sem ↓] Go.wp_at_zero Go.wp_at_succ
theorem works2_good : Trie.Good Trie.works2 ∧ Trie.count Trie.works2 ≤ 1 := by
  have := Trie.Good.ofW [([107], [118])] .nil Trie.Good.nil (by rw [Trie.works2_of])
  rw [Trie.works2_of] at this
  exact ⟨this.1, by have := this.2; simp [Trie.count] at this; exact this⟩
theorem works2_k : proveW Trie.works2 [107] = ([[1, 1, 2, 32, 107, 1, 1, 118]], 0) := by decide +kernel
theorem works2_x : proveW Trie.works2 [120] = ([[1, 1, 2, 32, 107, 1, 1, 118]], 0) := by decide +kernel
theorem proveW_told {t : Trie.T} {key : List UInt8} {l : List (List UInt8)} (h : proveW t key = (l, 0)) : Trie.keyedW key = true ∧ toldW (trailW (Nib.of key)) t = l := by
  unfold proveW at h
  split at h
  · rename_i hk
    exact ⟨hk, congrArg Prod.fst h⟩
  · cases h
theorem ver_k : verifyW (Trie.sumT Trie.works2) [107] [[1, 1, 2, 32, 107, 1, 1, 118]] = ([118], true, 0) := by
  obtain ⟨h1, h2⟩ := proveW_told works2_k
  have := Trie.verify_whole works2_good.1 h1
  rw [h2, show Trie.look Trie.works2 (Nib.of [107]) = [118] by decide +kernel] at this
  rw [this]
  rfl
theorem ver_x : verifyW (Trie.sumT Trie.works2) [120] [[1, 1, 2, 32, 107, 1, 1, 118]] = ([], false, 0) := by
  obtain ⟨h1, h2⟩ := proveW_told works2_x
  have := Trie.verify_whole works2_good.1 h1
  rw [h2, show Trie.look Trie.works2 (Nib.of [120]) = [] by decide +kernel] at this
  rw [this]
  rfl
theorem ver_0 : verifyW [] [107] [[1, 1, 2, 32, 107, 1, 1, 118]] = ([], false, 130) := by
  unfold verifyW
  rw [if_neg (by decide), if_pos rfl, if_neg (by decide)]
set_option maxRecDepth 100000 in
set_option maxHeartbeats 2000000 in
theorem law13_works (w : World) (hT : Tbl w) :
    Calls Tryd.prog 34 #[] w fun e w' => e = .returned (.bool true) ∧ Below w.heap.size w w' := by
  have HP : Hid (∀ w', Below w.heap.size w w' → (fun e w' => e = Ending.returned (.bool true) ∧ Below w.heap.size w w') (Ending.returned (.bool true)) w') := Lib.hid (fun W' a2 => ⟨rfl, a2⟩)
  generalize (fun e w' => e = Ending.returned (.bool true) ∧ Below w.heap.size w w') = P at HP ⊢
  have HTb := Lib.hid hT
  have HW : Hid (∀ (W : World) f, Below W.heap.size W (W.alloc (.cells f 26))) := Lib.hid (fun W f => by go_grown)
  clear hT
  go_enter Tryd.func34, Tryd.ntmps34
  go_wp2_with fail
  refine (trie_Of [([107], [118])] (by simp) (by simp) _ ?_ _ _ ?_).mono ?_
  · exact HTb.out.next (by go_grown)
  · exact reads_blk (Blk.new _ _ _) (by simp)
  rw [Trie.works2_of]
  rintro e w1 ⟨v1, rfl, hb1, hk1, _⟩
  have HB1 : Hid (Below w.heap.size w w1) := Lib.hid ((HW.out _ _).nxt hb1)
  have HK1 := Lib.hid (hk1 rfl)
  clear hb1 hk1
  obtain ⟨_, b1, x1, rfl, _⟩ := id HK1.out
  have HPk : Hid (∀ W, Below w1.heap.size w1 W → Calls Tryd.prog 36 #[.pointer (some ⟨b1, 0, none⟩), .string ⟨#[107]⟩] W (TextsCEnd W ([[1, 1, 2, 32, 107, 1, 1, 118]], 0))) := Lib.hid (fun W hW => by
    have := proof_Prove W Trie.works2 _ (HK1.out.next hW) (by have := works2_good.2; omega) [107] (by simp)
    rwa [works2_k] at this)
  have HPx : Hid (∀ W, Below w1.heap.size w1 W → Calls Tryd.prog 36 #[.pointer (some ⟨b1, 0, none⟩), .string ⟨#[120]⟩] W (TextsCEnd W ([[1, 1, 2, 32, 107, 1, 1, 118]], 0))) := Lib.hid (fun W hW => by
    have := proof_Prove W Trie.works2 _ (HK1.out.next hW) (by have := works2_good.2; omega) [120] (by simp)
    rwa [works2_x] at this)
  have HVr : Hid (∀ W (A : Option Addr) c (root key v : List UInt8) b (cd : Nat), Below w.heap.size w W → key.length ≤ 8 → verifyW root key [[1, 1, 2, 32, 107, 1, 1, 118]] = (v, b, cd) → Reads W W.heap.size 1 A 1 (strv [[1, 1, 2, 32, 107, 1, 1, 118]]) → Calls Tryd.prog 40 #[.string ⟨root.toArray⟩, .string ⟨key.toArray⟩, .slice A 1 c] W (VerEnd W (v, b, cd))) := Lib.hid (fun W A c root key v b cd hW hk e hr => by
    have := proof_Verify W root key (by omega) [[1, 1, 2, 32, 107, 1, 1, 118]] A c hr (by simp) (by simp) (HTb.out.next hW)
    rwa [e] at this)
  go_wp2_with fail
  refine (HPk.out _ (Below.refl _ _)).mono ?_
  rintro e w2 ⟨A2, n2, c2, rfl, hn2, own2, hb2⟩
  obtain rfl : n2 = 1 := hn2
  have C2 := Lib.hid hb2
  have R2 := Lib.hid (Reads.of_own own2)
  clear own2 hb2
  go_wp2_with fail
  refine (HPx.out _ C2.out).mono ?_
  rintro e w3 ⟨A3, n3, c3, rfl, hn3, own3, hb3⟩
  obtain rfl : n3 = 1 := hn3
  have C3 := Lib.hid (C2.out.nxt hb3)
  have R3 := Lib.hid (Reads.of_own own3)
  have R23 := Lib.hid ((R2.out.below hb3).more hb3.size)
  clear own3 hb3
  go_wp2_with fail
  refine (trie_Root _ _ _ (HK1.out.next C3.out)).mono ?_
  rintro e w4 ⟨rfl, rfl⟩
  have HVk := Lib.hid ver_k
  have HVx := Lib.hid ver_x
  generalize hsm : Trie.sumT Trie.works2 = sm at *
  have HSm := Lib.hid hsm
  clear hsm
  go_wp2_with fail
  refine (HVr.out _ A2 c2 sm [107] _ _ _ (HB1.out.nxt C3.out) (by simp) HVk.out R23.out).mono ?_
  rintro e w5 ⟨rfl, hb5⟩
  have C5 := Lib.hid (C3.out.nxt hb5)
  have R25 := Lib.hid ((R23.out.below hb5).more hb5.size)
  have R35 := Lib.hid ((R3.out.below hb5).more hb5.size)
  clear hb5
  go_wp2_with fail
  refine (trie_Root _ _ _ (HK1.out.next C5.out)).mono ?_
  rw [HSm.out]
  rintro e w6 ⟨rfl, rfl⟩
  go_wp2_with fail
  refine (HVr.out _ A3 c3 sm [120] _ _ _ (HB1.out.nxt C5.out) (by simp) HVx.out R35.out).mono ?_
  rintro e w7 ⟨rfl, hb7⟩
  have C7 := Lib.hid (C5.out.nxt hb7)
  have R27 := Lib.hid ((R25.out.below hb7).more hb7.size)
  have R37 := Lib.hid ((R35.out.below hb7).more hb7.size)
  clear hb7
  go_wp2_with fail
  refine (HVr.out _ A2 c2 [] [107] _ _ _ (HB1.out.nxt C7.out) (by simp) ver_0 R27.out).mono ?_
  rintro e w8 ⟨rfl, hb8⟩
  have C8 := Lib.hid (C7.out.nxt hb8)
  have R28 := Lib.hid ((R27.out.below hb8).more hb8.size)
  have R38 := Lib.hid ((R37.out.below hb8).more hb8.size)
  clear hb8
  go_wp2_with fail
  refine (same_told (l := [[1, 1, 2, 32, 107, 1, 1, 118]]) c2 c3 R28.out R38.out (by simp)).mono ?_
  rintro e w9 ⟨rfl, hb9⟩
  have C9 := Lib.hid (C8.out.nxt hb9)
  clear hb9
  go_wp2_with fail
  exact HP.out _ (HB1.out.nxt C9.out)
end Go.Proofs.YtefcmigbdfeaiaaDoor
