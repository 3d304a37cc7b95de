import Derived.Test.YtefcmigbdfeaiaaDoorK42
import Derived.Test.YtefcmigbdfeaiaaDoorK37
import Derived.Test.YtefcmigbdfeaiaaDoorK34
set_option linter.unusedSimpArgs false
set_option linter.unusedVariables false
namespace Go.Proofs.YtefcmigbdfeaiaaDoor
set_option linter.unusedVariables false
open Go.RowKit Go.Instr
attribute [local go_sem] ba_get ByteArray.mk_append_mk
set_option maxRecDepth 100000 in
set_option maxHeartbeats 1000000 in
theorem ref13_Verify (w : World) (root key : List UInt8) (hk : key.length ≤ 9223372036854775807) (nodes : List (List UInt8)) (A : Option Addr) (c : Nat) (hc : nodes.length ≤ c) (HR : Reads w w.heap.size 1 A nodes.length (strv nodes)) (hn : nodes.length ≤ 100000) (hs : ∀ x ∈ nodes, x.length ≤ 900000) :
    Calls Tryd.prog 41 #[.string ⟨root.toArray⟩, .string ⟨key.toArray⟩, .slice A nodes.length c] w (VerEnd w (verifyW root key nodes)) := by
  have HP : Hid (∀ (v : List UInt8) b (cd : Nat) w', verifyW root key nodes = (v, b, cd) → Below w.heap.size w w' → VerEnd w (verifyW root key nodes) (.returned (.tuple #[.string ⟨v.toArray⟩, .bool b, .int .i64 (cd : Int)])) w') := Lib.hid (fun v b t w' e h => by rw [e]; exact ⟨rfl, h⟩)
  have HX : Hid (verifyW root key nodes = if Trie.keyedW key = false then ([], false, 1)
  else if root = [] then (if nodes = [] then ([], false, 0) else ([], false, 130))
  else if (rfolW root (Nib.of key) nodes).2 = true then ((rfolW root (Nib.of key) nodes).1, decide ((rfolW root (Nib.of key) nodes).1 ≠ []), 0)
  else ([], false, 130)) := Lib.hid (by
    obtain ⟨a, b⟩ := rfol_follow nodes root (Nib.of key) 0
    unfold verifyW
    by_cases h1 : Trie.keyedW key = false
    · rw [if_pos h1, if_pos h1]
    · rw [if_neg h1, if_neg h1]
      by_cases h2 : root = []
      · rw [if_pos h2, if_pos h2]
      · rw [if_neg h2, if_neg h2]
        by_cases h3 : (rfolW root (Nib.of key) nodes).2 = true
        · have h4 := a.symm.trans h3
          rw [Bool.and_eq_true, decide_eq_true_eq, Nat.zero_add] at h4
          rw [if_pos h4, if_pos h3, b h3]
        · rw [if_neg h3, if_neg]
          intro h4
          apply h3
          rw [a, h4.1, h4.2]
          simp)
  generalize VerEnd w (verifyW root key nodes) = P at HP ⊢
  generalize verifyW root key nodes = X at *
  have HKy := Lib.hid (ref10_Keyed key hk w)
  cases hkey : Trie.keyedW key with
  | false =>
    rw [if_pos hkey] at HX
    rw [hkey] at HKy
    clear HR hs
    go_enter Tryd.func41, Tryd.ntmps41
    go_wp2_with fail
    refine HKy.out.mono ?_
    rintro e w1 ⟨rfl, rfl⟩
    go_wp2_with fail
    exact HP.out _ _ 1 _ HX.out (Below.refl _ _)
  | true =>
    rw [if_neg (by simp [hkey])] at HX
    rw [hkey] at HKy
    have hk8 := keyed_short hkey
    by_cases hr : root = []
    · subst hr
      rw [if_pos rfl] at HX
      clear HR hs
      by_cases hnn : nodes = []
      · subst hnn
        rw [if_pos rfl] at HX
        go_enter Tryd.func41, Tryd.ntmps41
        go_wp2_with fail
        refine HKy.out.mono ?_
        rintro e w1 ⟨rfl, rfl⟩
        go_wp2_with fail
        exact HP.out _ _ 0 _ HX.out (Below.refl _ _)
      · rw [if_neg hnn] at HX
        have hpos : (0 : Int) < nodes.length := by have := List.length_pos_iff.2 hnn; omega
        clear hnn
        go_enter Tryd.func41, Tryd.ntmps41
        go_wp2_with fail
        refine HKy.out.mono ?_
        rintro e w1 ⟨rfl, rfl⟩
        go_wp2_with fail
        exact HP.out _ _ 130 _ HX.out (Below.refl _ _)
    · rw [if_neg hr] at HX
      have ne1 : (root.toArray = #[]) = False := by simp [hr]
      have ne2 : root.isEmpty = false := by simp [hr]
      have HOf := Lib.hid (fun W => refnib_Of key W (by omega))
      have HFo : Hid (∀ W, Below w.heap.size w W → Calls Tryd.prog 72 #[.string ⟨root.toArray⟩, .string ⟨(Nib.of key).toArray⟩, .slice A nodes.length c] W (RFolEnd W (rfolW root (Nib.of key) nodes))) := Lib.hid (fun W hW =>
        ref13_Follow nodes root (Nib.of key) A c W hc hn ((HR.below hW).more hW.size) hs (by rw [Nib.of_length]; omega) (Nib.fit_of key))
      generalize rfolW root (Nib.of key) nodes = fr at *
      obtain ⟨v, b⟩ := fr
      simp only at HX HFo
      unfold RFolEnd at HFo
      simp only at HFo
      generalize Nib.of key = q at *
      clear HR hs hr hk hn hk8 hkey hc
      go_enter Tryd.func41, Tryd.ntmps41
      go_wp2_with fail
      refine HKy.out.mono ?_
      rintro e w1 ⟨rfl, rfl⟩
      go_wp2_with fail
      refine (HOf.out _).mono ?_
      rintro e w2 ⟨rfl, hb2⟩
      have HB2 := Lib.hid hb2
      clear hb2
      go_wp2_with fail
      refine (HFo.out _ HB2.out).mono ?_
      rintro e w3 ⟨rfl, hb3⟩
      have HB3 := Lib.hid (HB2.out.nxt hb3)
      clear hb3 HKy HOf HFo
      cases b with
      | false =>
        rw [if_neg (by simp)] at HX
        go_wp2_with fail
        exact HP.out _ _ 130 _ HX.out HB3.out
      | true =>
        rw [if_pos rfl] at HX
        by_cases hv : v = []
        · subst hv
          go_wp2_with fail
          exact HP.out _ _ 0 _ HX.out HB3.out
        · rw [decide_eq_true (show v ≠ [] from hv)] at HX
          have ne3 : (v.toArray = #[]) = False := by simp [hv]
          have ne4 : v.isEmpty = false := by simp [hv]
          clear hv
          go_wp2_with fail
          exact HP.out _ _ 0 _ HX.out HB3.out
set_option maxRecDepth 100000 in
set_option maxHeartbeats 1000000 in
theorem ref13_Prove (w : World) (t : Trie.T) (h : Trie.Good t) (hct : Trie.count t ≤ 2000) (hD : (Trie.goT allW t []).length ≤ 100000 ∧ ∀ x ∈ Trie.goT allW t [], x.1.length ≤ 1000) (A : Option Addr) (cp n : Nat) (hn : n = Trie.count t) (HR : Reads w w.heap.size 2 A n (icells (Trie.itemsW t))) (key : List UInt8) (hk : key.length ≤ 9223372036854775807) :
    Calls Tryd.prog 37 #[.slice A n cp, .string ⟨key.toArray⟩] w (TextsCEnd w (proveW t key)) := by
  have HP : Hid (∀ l (cd : Nat), proveW t key = (l, cd) → ∀ A n c w', n = l.length → w'.ownsRow w.heap.size 9 1 (.slice A n c) n (strv l) → Below w.heap.size w w' → TextsCEnd w (proveW t key) (.returned (.tuple #[.slice A n c, .int .i64 (cd : Int)])) w') := Lib.hid (fun l cd e A n c w' h1 h2 h3 => by rw [e]; exact ⟨A, n, c, rfl, h1, h2, h3⟩)
  generalize TextsCEnd w (proveW t key) = P at HP ⊢
  have HKy := Lib.hid (ref10_Keyed key hk w)
  cases hkey : Trie.keyedW key with
  | false =>
    have HE : Hid (proveW t key = ([], 1)) := Lib.hid (by unfold proveW; rw [if_neg (by simp [hkey])])
    rw [hkey] at HKy
    clear HR hD h
    go_enter Tryd.func37, Tryd.ntmps37
    go_wp2_with fail
    refine HKy.out.mono ?_
    rintro e w1 ⟨rfl, rfl⟩
    go_wp2_with fail
    exact HP.out [] 1 HE.out none 0 0 _ rfl (World.ownsRow_nil _ _ _ _) (Below.refl _ _)
  | true =>
    have HE : Hid (proveW t key = (textsD ((Trie.goT allW t []).filter fun x => trailW (Nib.of key) x.1), 0)) := Lib.hid (by unfold proveW; rw [if_pos hkey, told_filter (trailW (Nib.of key)) (trail_closed _) t])
    rw [hkey] at HKy
    have HSp := Lib.hid (ref10_Spots w t h hct A cp n hn HR)
    have HTr := Lib.hid (fun W A c (hr : Reads W W.heap.size 22 A (Trie.goT allW t []).length (spv (Trie.goT allW t []))) => ref10_Trail W _ hD.1 hD.2 key (by have := keyed_short hkey; omega) A c hr)
    generalize (Trie.goT allW t []) = D at *
    generalize (D.filter fun x => trailW (Nib.of key) x.1) = D2 at *
    clear HR hD h hn
    go_enter Tryd.func37, Tryd.ntmps37
    go_wp2_with fail
    refine HKy.out.mono ?_
    rintro e w1 ⟨rfl, rfl⟩
    go_wp2_with fail
    refine HSp.out.mono ?_
    rintro e w2 ⟨A2, c2, n2, rfl, hn2, own2, hb2⟩
    obtain rfl := hn2
    have HB2 := Lib.hid hb2
    have R2 := Lib.hid (Reads.of_own own2)
    clear hb2 own2
    go_wp2_with fail
    refine (HTr.out _ _ _ R2.out).mono ?_
    rintro e w3 ⟨A3, n3, c3, rfl, h1, h2, h3⟩
    have HH := Lib.hid (And.intro h1 (And.intro (own_lower h2 HB2.out.size) (HB2.out.nxt h3)))
    clear h1 h2 h3
    go_wp2_with fail
    exact HP.out _ 0 HE.out A3 n3 c3 _ HH.out.1 HH.out.2.1 HH.out.2.2
end Go.Proofs.YtefcmigbdfeaiaaDoor
