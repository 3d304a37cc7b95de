import Derived.Test.YtcjafcbekegmlaaGreatDoorJ25
import Derived.Test.YtcjafcbekegmlaaGreatDoorJ37
import Derived.Test.YtcjafcbekegmlaaGreatDoorJ35
set_option linter.unusedSimpArgs false
set_option linter.unusedVariables false
namespace Go.Proofs.YtcjafcbekegmlaaGreatDoor
set_option linter.unusedVariables false
open Go.RowKit Go.Instr
attribute [local go_sem] ba_get ByteArray.mk_append_mk
def rfolW : List UInt8 → List UInt8 → List (List UInt8) → List UInt8 × Bool
  | _, _, [] => ([], false)
  | sum, left, x :: r =>
    if shaW (1 :: x) ≠ sum ∨ (decN x).2 ≠ 0 then ([], false)
    else if (stepW (decN x).1 left).1 = [] then ((stepW (decN x).1 left).2, decide (r = []))
    else rfolW (stepW (decN x).1 left).1 (stepW (decN x).1 left).2 r
theorem rfolW_cons (sum left x : List UInt8) (r : List (List UInt8)) : rfolW sum left (x :: r) = if shaW (1 :: x) ≠ sum ∨ (decN x).2 ≠ 0 then ([], false)
    else if (stepW (decN x).1 left).1 = [] then ((stepW (decN x).1 left).2, decide (r = []))
    else rfolW (stepW (decN x).1 left).1 (stepW (decN x).1 left).2 r := rfl
theorem rfol_follow (nodes : List (List UInt8)) : ∀ (s l : List UInt8) (k : Nat), (rfolW s l nodes).2 = ((followW s l nodes k).2.2 && decide ((followW s l nodes k).2.1 = k + nodes.length)) ∧ ((rfolW s l nodes).2 = true → (rfolW s l nodes).1 = (followW s l nodes k).1) := by
  induction nodes with
  | nil => intro s l k; exact ⟨rfl, fun h => by cases h⟩
  | cons x r ih =>
    intro s l k
    rw [rfolW_cons, followW_cons]
    by_cases h1 : shaW (1 :: x) ≠ s ∨ (decN x).2 ≠ 0
    · rw [if_pos h1, if_pos h1]
      exact ⟨rfl, fun h => by cases h⟩
    · rw [if_neg h1, if_neg h1]
      by_cases h2 : (stepW (decN x).1 l).1 = []
      · rw [if_pos h2, if_pos h2]
        refine ⟨?_, fun _ => rfl⟩
        show decide (r = []) = (true && decide (k + 1 = k + (x :: r).length))
        rw [Bool.true_and, List.length_cons]
        refine decide_eq_decide.2 ⟨fun h => by subst h; rfl, fun h => List.eq_nil_of_length_eq_zero (by omega)⟩
      · rw [if_neg h2, if_neg h2]
        obtain ⟨a, b⟩ := ih (stepW (decN x).1 l).1 (stepW (decN x).1 l).2 (k + 1)
        refine ⟨?_, b⟩
        rw [a, List.length_cons, show k + 1 + r.length = k + (r.length + 1) by omega]
theorem stepW_leaf (p v : List UInt8) (K : List (List UInt8)) (left : List UInt8) : stepW (1, p, v, K) left = ([], if p = left then v else []) := by
  rw [stepW_eq]
  by_cases hc : Nib.common p left = p.length
  · have hq := Trie.prefix_common.1 hc
    have hle := (Nib.common_le p left).2
    rw [if_neg (by simpa using hc), if_neg (by decide)]
    by_cases hl : p.length < left.length
    · rw [if_pos ⟨rfl, hl⟩, if_neg (fun e => by rw [e] at hl; omega)]
    · rw [if_neg (fun h => hl h.2), if_pos (.inl rfl), if_pos]
      rw [hq, List.drop_of_length_le (by omega), List.append_nil]
  · rw [if_pos hc, if_neg]
    intro e
    subst e
    exact hc (by have := (Nib.common_take p p p.length).2 ⟨Nat.le_refl _, Nat.le_refl _, rfl⟩; have := (Nib.common_le p p).1; omega)
theorem stepW_ext (p v : List UInt8) (K : List (List UInt8)) (left : List UInt8) : stepW (2, p, v, K) left = if p.length ≤ left.length ∧ left.take p.length = p then (K.getD 0 [], left.drop p.length) else ([], []) := by
  rw [stepW_eq]
  by_cases hc : Nib.common p left = p.length
  · have hq := Trie.prefix_common.1 hc
    have hle := (Nib.common_le p left).2
    rw [if_neg (by simpa using hc), if_pos rfl, if_pos ⟨by omega, by rw [hq]; simp⟩]
  · rw [if_pos hc, if_neg]
    rintro ⟨h1, h2⟩
    apply hc
    rw [Trie.prefix_common]
    conv => lhs; rw [← List.take_append_drop p.length left, h2]
set_option maxRecDepth 100000 in
theorem str_size (w : World) : (sizeOf 9).run Tryz.prog w = .ok 1 w := by
  go_simp
  try rfl
set_option maxRecDepth 100000 in
theorem text_cut1 (A : Option Addr) (x : List UInt8) (l : List (List UInt8)) (m c : Nat) (hn : l.length = m) (hc : m + 1 ≤ c) (w : World) (B : Nat) (hr : Reads w B 1 A (m + 1) (strv (x :: l))) :
    ∃ A1 c1, (∀ w, (Instr.sliceAt 23 (.slice A (m + 1) c) (some (.int .i64 1)) none none).run Tryz.prog w = .ok (.slice A1 m c1) w) ∧ Reads w B 1 A1 l.length (strv l) ∧ m ≤ c1 := by
  refine ⟨if c = 1 then A else A.map (·.add (1 * 1)), c - 1, fun w => ?_, ?_, by omega⟩
  · rw [run_sliceAt_slice _ _ _ _ _ _ Tryz.underlying23, run_slice_l _ _ _ _ _ Tryz.underlying23 _ _ (by omega) (by omega)]
    rw [show (sizeOf (Program.elem Tryz.prog 23)).run Tryz.prog w = .ok 1 w from str_size w]
    rfl
  · have := hr.cut (k := 1) (cap := c) (by omega) hc
    rw [show m + 1 - 1 = l.length by omega, show (strv (x :: l)).drop (1 * 1) = strv l from rfl] at this
    exact this
def RFolEnd (w : World) (r : List UInt8 × Bool) (e : Ending) (w' : World) : Prop := e = .returned (.tuple #[.string ⟨r.1.toArray⟩, .bool r.2]) ∧ Below w.heap.size w w'
end Go.Proofs.YtcjafcbekegmlaaGreatDoor

namespace Go.Proofs.YtcjafcbekegmlaaGreatDoor
set_option linter.unusedVariables false
open Go.RowKit Go.Instr
attribute [local go_sem] ba_get ByteArray.mk_append_mk
set_option maxRecDepth 100000 in
set_option maxHeartbeats 4000000 in
theorem ref13_Follow (nodes : List (List UInt8)) : ∀ (sum left : List UInt8) (A : Option Addr) (c : Nat) (w : World), nodes.length ≤ c → nodes.length ≤ 100000 → Reads w w.heap.size 1 A nodes.length (strv nodes) → (∀ x ∈ nodes, x.length ≤ 900000) → left.length ≤ 100000 → Nib.fit left = true →
    Calls Tryz.prog 72 #[.string ⟨sum.toArray⟩, .string ⟨left.toArray⟩, .slice A nodes.length c] w (RFolEnd w (rfolW sum left nodes)) := by
  induction nodes with
  | nil =>
    intro sum left A c w _ _ _ _ _ _
    have HP : Hid (∀ w', Below w.heap.size w w' → RFolEnd w (rfolW sum left []) (.returned (.tuple #[.string ⟨#[]⟩, .bool false])) w') := Lib.hid (fun w' h => ⟨rfl, h⟩)
    generalize RFolEnd w (rfolW sum left []) = P at HP ⊢
    go_enter Tryz.func72, Tryz.ntmps72
    go_wp2_with fail
    exact HP.out _ (Below.refl _ _)
  | cons x r ih =>
    intro sum left A c w hc hn HR hs hl hf
    have HP : Hid (∀ v b w', rfolW sum left (x :: r) = (v, b) → Below w.heap.size w w' → RFolEnd w (rfolW sum left (x :: r)) (.returned (.tuple #[.string ⟨v.toArray⟩, .bool b])) w') := Lib.hid (fun v b w' e h => by rw [e]; exact ⟨rfl, h⟩)
    have HX := Lib.hid (rfolW_cons sum left x r)
    generalize RFolEnd w (rfolW sum left (x :: r)) = P at HP ⊢
    generalize rfolW sum left (x :: r) = X at *
    obtain ⟨ad, off, rfl, hbl, hcell⟩ := few_cell HR (i := 0) (by simp)
    simp only [List.getElem_cons_zero, Nat.add_zero] at hcell
    have HCell := Lib.hid hcell
    have r0 := hcell _ (Below.refl _ _)
    have hxl := hs x (by simp)
    obtain ⟨m, hm⟩ : ∃ m, r.length = m := ⟨_, rfl⟩
    rw [List.length_cons, hm] at HR hc hn ⊢
    obtain ⟨A1, c1, hcut, HR1, hc1⟩ := text_cut1 (some ⟨ad, off, none⟩) x r m c hm hc w w.heap.size HR
    have HTag : Hid (∀ W, Calls Tryz.prog 93 #[.int .i64 1, .string ⟨x.toArray⟩] W fun e w' => e = .returned (.string ⟨(shaW (1 :: x)).toArray⟩) ∧ Below W.heap.size W w') := Lib.hid (fun W => ref04_Tagged W 1 (by omega) x (by omega))
    have HDec := Lib.hid (fun W => ref08_Decode W x (by omega))
    have hm0 : ((m : Int) + 1 == 0) = false := by simp; omega
    have hm1 : (0 : Int) < (m : Int) + 1 := by omega
    have hm2 : (m : Int) ≤ 100000 := by omega
    have IH : Hid (∀ (nx rs : List UInt8) (W : World), rs.length ≤ 100000 → Nib.fit rs = true → Below w.heap.size w W → Calls Tryz.prog 72 #[.string ⟨nx.toArray⟩, .string ⟨rs.toArray⟩, .slice A1 m c1] W (RFolEnd W (rfolW nx rs r))) := Lib.hid (fun nx rs W h1 h2 hW => by
      have := ih nx rs A1 c1 W (by omega) (by omega) ((HR1.below hW).more hW.size) (fun y hy => hs y (by simp [hy])) h1 h2
      rw [hm] at this
      exact this)
    have hsm := decN_small x
    have HDc := Lib.hid (decN_cases x)
    have hmz : ((m : Int) == 0) = decide (r = []) := by
      rw [← hm]
      cases r <;> simp
      omega
    have HFl := Lib.hid (And.intro hl hf)
    clear hm HR HR1 hcell hbl hs hc hn hxl hl hf hc1 ih
    generalize decide (r = []) = bz at *
    generalize shaW (1 :: x) = sm at *
    by_cases hsum : sm = sum
    · subst hsum
      have hs1 : (sm == sm) = true := by simp
      rcases HDc.out with hd | ⟨⟨k, p, v, K⟩, hd, hK, hfine, _⟩
      · rw [hd] at HX HDec
        rw [if_pos (.inr (by decide))] at HX
        unfold DecNEnd at HDec
        simp only [zeroN] at HDec
        have SZ : (Tryz.prog.info? 107).map (·.size) = some (nodeV 0 [] [] zeroK).length := info_node
        have HON := nodeV_one 0 [] [] zeroK
        have HSz := Lib.hid (nodeV_size (k := 0) (p := []) (v := []) (K := zeroK) rfl)
        clear hd hsm HDc IH HFl hmz
        generalize nodeV 0 [] [] zeroK = NV at *
        go_enter Tryz.func72, Tryz.ntmps72
        go_wp2_with fail
        refine (HTag.out _).mono ?_
        rintro e w1 ⟨rfl, hb1⟩
        have HB1 := Lib.hid hb1
        have r1 := HCell.out _ hb1
        clear hb1 r0
        go_wp2_with fail
        refine (HDec.out _).mono ?_
        rintro e w2 ⟨rfl, hb2⟩
        have HB2 := Lib.hid (HB1.out.nxt hb2)
        have F3 : Hid (Live w (w2.alloc (.cells #[.int .i64 0, .string ⟨#[]⟩, .string ⟨#[]⟩, .string ⟨#[]⟩, .string ⟨#[]⟩, .string ⟨#[]⟩, .string ⟨#[]⟩, .string ⟨#[]⟩, .string ⟨#[]⟩, .string ⟨#[]⟩, .string ⟨#[]⟩, .string ⟨#[]⟩, .string ⟨#[]⟩, .string ⟨#[]⟩, .string ⟨#[]⟩, .string ⟨#[]⟩, .string ⟨#[]⟩, .string ⟨#[]⟩, .string ⟨#[]⟩] 107)) [(w2.heap.size, 107, #[.int .i64 0, .string ⟨#[]⟩, .string ⟨#[]⟩, .string ⟨#[]⟩, .string ⟨#[]⟩, .string ⟨#[]⟩, .string ⟨#[]⟩, .string ⟨#[]⟩, .string ⟨#[]⟩, .string ⟨#[]⟩, .string ⟨#[]⟩, .string ⟨#[]⟩, .string ⟨#[]⟩, .string ⟨#[]⟩, .string ⟨#[]⟩, .string ⟨#[]⟩, .string ⟨#[]⟩, .string ⟨#[]⟩, .string ⟨#[]⟩])]) := Lib.hid (Live.one (HB2.out.alloc HB2.out.size _) HB2.out.size (Blk.new _ _ _))
        have TH : (w2.alloc (.cells #[.int .i64 0, .string ⟨#[]⟩, .string ⟨#[]⟩, .string ⟨#[]⟩, .string ⟨#[]⟩, .string ⟨#[]⟩, .string ⟨#[]⟩, .string ⟨#[]⟩, .string ⟨#[]⟩, .string ⟨#[]⟩, .string ⟨#[]⟩, .string ⟨#[]⟩, .string ⟨#[]⟩, .string ⟨#[]⟩, .string ⟨#[]⟩, .string ⟨#[]⟩, .string ⟨#[]⟩, .string ⟨#[]⟩, .string ⟨#[]⟩] 107)).there w2.heap.size 0 NV.toArray.size := by
          rw [show NV.toArray.size = 19 by rw [List.size_toArray]; exact HSz.out]
          exact F3.out.there 0 19 rfl (by decide)
        have SZ2 : (Tryz.prog.info? 107).map (·.size) = some NV.toArray.size := by rw [List.size_toArray]; exact SZ
        clear hb2 r1
        go_upto_region 4 with ((with_reducible refine at_put 29 ?_); refine wpList_store_mid rfl 107 _ _ rfl w2.heap.size 0 NV.toArray rfl rfl TH SZ2 HON ?_)
        have F4 := Live.hall F3 0 NV.toArray.toList rfl HSz.out.symm
        generalize World.setCells _ w2.heap.size 0 _ = W4 at F4 ⊢
        generalize w2.heap.size = nb at F4 ⊢
        clear TH SZ2 F3 HON SZ
        go_wp2_with fail
        exact HP.out _ _ _ HX.out F4.out.b
      · rw [hd] at HX HDec hsm
        unfold DecNEnd at HDec
        simp only at HDec hsm hK
        rw [if_neg (by simp)] at HX
        have SZ : (Tryz.prog.info? 107).map (·.size) = some (nodeV k p v K).length := by rw [nodeV_size hK]; exact info_node
        have HON := nodeV_one k p v K
        have HSz := Lib.hid (nodeV_size (k := k) (p := p) (v := v) hK)
        have HFn : Hid (fineN k p v K = true) := Lib.hid hfine
        have HK := Lib.hid hK
        clear hd HDc hK hfine
        obtain ⟨NV, hNV⟩ : ∃ NV, nodeV k p v K = NV := ⟨_, rfl⟩
        have HNV := Lib.hid hNV
        rw [hNV] at HDec SZ HON HSz
        clear hNV
        have hp16 := hsm.1
        clear hsm
        have HCs : Hid (∀ (W : World) nb, Blk W nb 107 NV.toArray → W.cell? ⟨nb, 0, none⟩ = some (.int .i64 (k : Int)) ∧ W.cell? ⟨nb, 1, none⟩ = some (.string ⟨p.toArray⟩) ∧ W.cell? ⟨nb, 2, none⟩ = some (.string ⟨v.toArray⟩) ∧ ∀ i, i < 16 → W.cell? ⟨nb, 3 + i, none⟩ = some (.string ⟨(K.getD i []).toArray⟩)) := Lib.hid (fun W nb h => by
          rw [← HNV.out] at h
          refine ⟨h.cell 0, h.cell 1, h.cell 2, fun i hi => ?_⟩
          rw [h.cell, List.getElem?_toArray, show 3 + i = i + 1 + 1 + 1 by omega]
          unfold nodeV
          rw [List.getElem?_cons_succ, List.getElem?_cons_succ, List.getElem?_cons_succ, strv_at (by rw [HK.out]; exact hi), List.getD_eq_getElem?_getD, List.getElem?_eq_getElem (by rw [HK.out]; exact hi)]
          rfl)
        rcases (fineN_parts HFn.out).1 with rfl | rfl | rfl
        · rw [stepW_leaf] at HX
          rw [if_pos rfl] at HX
          clear IH HFl HNV
          by_cases hpl : p = left
          · rw [if_pos hpl] at HX
            subst hpl
            have hpp : (p == p) = true := by simp
            go_enter Tryz.func72, Tryz.ntmps72
            go_wp2_with fail
            refine (HTag.out _).mono ?_
            rintro e w1 ⟨rfl, hb1⟩
            have HB1 := Lib.hid hb1
            have r1 := HCell.out _ hb1
            clear hb1 r0
            go_wp2_with fail
            refine (HDec.out _).mono ?_
            rintro e w2 ⟨rfl, hb2⟩
            have HB2 := Lib.hid (HB1.out.nxt hb2)
            have F3 : Hid (Live w (w2.alloc (.cells #[.int .i64 0, .string ⟨#[]⟩, .string ⟨#[]⟩, .string ⟨#[]⟩, .string ⟨#[]⟩, .string ⟨#[]⟩, .string ⟨#[]⟩, .string ⟨#[]⟩, .string ⟨#[]⟩, .string ⟨#[]⟩, .string ⟨#[]⟩, .string ⟨#[]⟩, .string ⟨#[]⟩, .string ⟨#[]⟩, .string ⟨#[]⟩, .string ⟨#[]⟩, .string ⟨#[]⟩, .string ⟨#[]⟩, .string ⟨#[]⟩] 107)) [(w2.heap.size, 107, #[.int .i64 0, .string ⟨#[]⟩, .string ⟨#[]⟩, .string ⟨#[]⟩, .string ⟨#[]⟩, .string ⟨#[]⟩, .string ⟨#[]⟩, .string ⟨#[]⟩, .string ⟨#[]⟩, .string ⟨#[]⟩, .string ⟨#[]⟩, .string ⟨#[]⟩, .string ⟨#[]⟩, .string ⟨#[]⟩, .string ⟨#[]⟩, .string ⟨#[]⟩, .string ⟨#[]⟩, .string ⟨#[]⟩, .string ⟨#[]⟩])]) := Lib.hid (Live.one (HB2.out.alloc HB2.out.size _) HB2.out.size (Blk.new _ _ _))
            have TH : (w2.alloc (.cells #[.int .i64 0, .string ⟨#[]⟩, .string ⟨#[]⟩, .string ⟨#[]⟩, .string ⟨#[]⟩, .string ⟨#[]⟩, .string ⟨#[]⟩, .string ⟨#[]⟩, .string ⟨#[]⟩, .string ⟨#[]⟩, .string ⟨#[]⟩, .string ⟨#[]⟩, .string ⟨#[]⟩, .string ⟨#[]⟩, .string ⟨#[]⟩, .string ⟨#[]⟩, .string ⟨#[]⟩, .string ⟨#[]⟩, .string ⟨#[]⟩] 107)).there w2.heap.size 0 NV.toArray.size := by
              rw [show NV.toArray.size = 19 by rw [List.size_toArray]; exact HSz.out]
              exact F3.out.there 0 19 rfl (by decide)
            have SZ2 : (Tryz.prog.info? 107).map (·.size) = some NV.toArray.size := by rw [List.size_toArray]; exact SZ
            clear hb2 r1
            go_upto_region 4 with ((with_reducible refine at_put 29 ?_); refine wpList_store_mid rfl 107 _ _ rfl w2.heap.size 0 NV.toArray rfl rfl TH SZ2 HON ?_)
            have F4 := Live.hall F3 0 NV.toArray.toList rfl HSz.out.symm
            generalize World.setCells _ w2.heap.size 0 _ = W4 at F4 ⊢
            generalize w2.heap.size = nb at F4 ⊢
            clear TH SZ2 F3 HON SZ
            obtain ⟨c0, c1', c2, _⟩ := HCs.out W4 nb (F4.out.blk 0 rfl)
            go_wp2_with fail
            exact HP.out _ _ _ HX.out F4.out.b
          · rw [if_neg hpl] at HX
            have hpp : (p == left) = false := by simp [hpl]
            clear hpl
            go_enter Tryz.func72, Tryz.ntmps72
            go_wp2_with fail
            refine (HTag.out _).mono ?_
            rintro e w1 ⟨rfl, hb1⟩
            have HB1 := Lib.hid hb1
            have r1 := HCell.out _ hb1
            clear hb1 r0
            go_wp2_with fail
            refine (HDec.out _).mono ?_
            rintro e w2 ⟨rfl, hb2⟩
            have HB2 := Lib.hid (HB1.out.nxt hb2)
            have F3 : Hid (Live w (w2.alloc (.cells #[.int .i64 0, .string ⟨#[]⟩, .string ⟨#[]⟩, .string ⟨#[]⟩, .string ⟨#[]⟩, .string ⟨#[]⟩, .string ⟨#[]⟩, .string ⟨#[]⟩, .string ⟨#[]⟩, .string ⟨#[]⟩, .string ⟨#[]⟩, .string ⟨#[]⟩, .string ⟨#[]⟩, .string ⟨#[]⟩, .string ⟨#[]⟩, .string ⟨#[]⟩, .string ⟨#[]⟩, .string ⟨#[]⟩, .string ⟨#[]⟩] 107)) [(w2.heap.size, 107, #[.int .i64 0, .string ⟨#[]⟩, .string ⟨#[]⟩, .string ⟨#[]⟩, .string ⟨#[]⟩, .string ⟨#[]⟩, .string ⟨#[]⟩, .string ⟨#[]⟩, .string ⟨#[]⟩, .string ⟨#[]⟩, .string ⟨#[]⟩, .string ⟨#[]⟩, .string ⟨#[]⟩, .string ⟨#[]⟩, .string ⟨#[]⟩, .string ⟨#[]⟩, .string ⟨#[]⟩, .string ⟨#[]⟩, .string ⟨#[]⟩])]) := Lib.hid (Live.one (HB2.out.alloc HB2.out.size _) HB2.out.size (Blk.new _ _ _))
            have TH : (w2.alloc (.cells #[.int .i64 0, .string ⟨#[]⟩, .string ⟨#[]⟩, .string ⟨#[]⟩, .string ⟨#[]⟩, .string ⟨#[]⟩, .string ⟨#[]⟩, .string ⟨#[]⟩, .string ⟨#[]⟩, .string ⟨#[]⟩, .string ⟨#[]⟩, .string ⟨#[]⟩, .string ⟨#[]⟩, .string ⟨#[]⟩, .string ⟨#[]⟩, .string ⟨#[]⟩, .string ⟨#[]⟩, .string ⟨#[]⟩, .string ⟨#[]⟩] 107)).there w2.heap.size 0 NV.toArray.size := by
              rw [show NV.toArray.size = 19 by rw [List.size_toArray]; exact HSz.out]
              exact F3.out.there 0 19 rfl (by decide)
            have SZ2 : (Tryz.prog.info? 107).map (·.size) = some NV.toArray.size := by rw [List.size_toArray]; exact SZ
            clear hb2 r1
            go_upto_region 4 with ((with_reducible refine at_put 29 ?_); refine wpList_store_mid rfl 107 _ _ rfl w2.heap.size 0 NV.toArray rfl rfl TH SZ2 HON ?_)
            have F4 := Live.hall F3 0 NV.toArray.toList rfl HSz.out.symm
            generalize World.setCells _ w2.heap.size 0 _ = W4 at F4 ⊢
            generalize w2.heap.size = nb at F4 ⊢
            clear TH SZ2 F3 HON SZ
            obtain ⟨c0, c1', c2, _⟩ := HCs.out W4 nb (F4.out.blk 0 rfl)
            go_wp2_with fail
            exact HP.out _ _ _ HX.out F4.out.b
        · have hst := stepW_ext p v K left
          have hk32 := (fine_ext HFn.out).1
          by_cases hpl : p.length ≤ left.length
          · have hplI : (p.length : Int) ≤ left.length := by omega
            have t1 := run_take left p.length hpl
            have t2 := run_drop left p.length hpl
            by_cases hpt : left.take p.length = p
            · rw [if_pos ⟨hpl, hpt⟩] at hst
              rw [hst] at HX
              simp only at HX
              rw [if_neg (fun e => by rw [e] at hk32; cases hk32)] at HX
              rw [hpt] at t1
              have hpp : (p == p) = true := by simp
              have IHc : Hid (∀ W, Below w.heap.size w W → Calls Tryz.prog 72 #[.string ⟨(K.getD 0 []).toArray⟩, .string ⟨(left.drop p.length).toArray⟩, .slice A1 m c1] W (RFolEnd W (rfolW (K.getD 0 []) (left.drop p.length) r))) := Lib.hid (fun W hW => IH.out _ _ W (by rw [List.length_drop]; have := HFl.out.1; omega) (Trie.fit_drop _ HFl.out.2) hW)
              clear hpl hpt hk32 IH HFl hst HNV
              generalize left.drop p.length = lr at *
              go_enter Tryz.func72, Tryz.ntmps72
              go_wp2_with fail
              refine (HTag.out _).mono ?_
              rintro e w1 ⟨rfl, hb1⟩
              have HB1 := Lib.hid hb1
              have r1 := HCell.out _ hb1
              clear hb1 r0
              go_wp2_with fail
              refine (HDec.out _).mono ?_
              rintro e w2 ⟨rfl, hb2⟩
              have HB2 := Lib.hid (HB1.out.nxt hb2)
              have F3 : Hid (Live w (w2.alloc (.cells #[.int .i64 0, .string ⟨#[]⟩, .string ⟨#[]⟩, .string ⟨#[]⟩, .string ⟨#[]⟩, .string ⟨#[]⟩, .string ⟨#[]⟩, .string ⟨#[]⟩, .string ⟨#[]⟩, .string ⟨#[]⟩, .string ⟨#[]⟩, .string ⟨#[]⟩, .string ⟨#[]⟩, .string ⟨#[]⟩, .string ⟨#[]⟩, .string ⟨#[]⟩, .string ⟨#[]⟩, .string ⟨#[]⟩, .string ⟨#[]⟩] 107)) [(w2.heap.size, 107, #[.int .i64 0, .string ⟨#[]⟩, .string ⟨#[]⟩, .string ⟨#[]⟩, .string ⟨#[]⟩, .string ⟨#[]⟩, .string ⟨#[]⟩, .string ⟨#[]⟩, .string ⟨#[]⟩, .string ⟨#[]⟩, .string ⟨#[]⟩, .string ⟨#[]⟩, .string ⟨#[]⟩, .string ⟨#[]⟩, .string ⟨#[]⟩, .string ⟨#[]⟩, .string ⟨#[]⟩, .string ⟨#[]⟩, .string ⟨#[]⟩])]) := Lib.hid (Live.one (HB2.out.alloc HB2.out.size _) HB2.out.size (Blk.new _ _ _))
              have TH : (w2.alloc (.cells #[.int .i64 0, .string ⟨#[]⟩, .string ⟨#[]⟩, .string ⟨#[]⟩, .string ⟨#[]⟩, .string ⟨#[]⟩, .string ⟨#[]⟩, .string ⟨#[]⟩, .string ⟨#[]⟩, .string ⟨#[]⟩, .string ⟨#[]⟩, .string ⟨#[]⟩, .string ⟨#[]⟩, .string ⟨#[]⟩, .string ⟨#[]⟩, .string ⟨#[]⟩, .string ⟨#[]⟩, .string ⟨#[]⟩, .string ⟨#[]⟩] 107)).there w2.heap.size 0 NV.toArray.size := by
                rw [show NV.toArray.size = 19 by rw [List.size_toArray]; exact HSz.out]
                exact F3.out.there 0 19 rfl (by decide)
              have SZ2 : (Tryz.prog.info? 107).map (·.size) = some NV.toArray.size := by rw [List.size_toArray]; exact SZ
              clear hb2 r1
              go_upto_region 4 with ((with_reducible refine at_put 29 ?_); refine wpList_store_mid rfl 107 _ _ rfl w2.heap.size 0 NV.toArray rfl rfl TH SZ2 HON ?_)
              have F4 := Live.hall F3 0 NV.toArray.toList rfl HSz.out.symm
              generalize World.setCells _ w2.heap.size 0 _ = W4 at F4 ⊢
              generalize w2.heap.size = nb at F4 ⊢
              clear TH SZ2 F3 HON SZ
              obtain ⟨c0, c1', c2, c3⟩ := HCs.out W4 nb (F4.out.blk 0 rfl)
              have c3 := c3 0 (by omega)
              have HLt := Lib.hid (F4.out.lt 0 rfl)
              generalize K.getD 0 [] = kd at *
              generalize rfolW kd lr r = fr at *
              obtain ⟨fv, fb⟩ := fr
              unfold RFolEnd at IHc
              simp only at IHc
              clear c2 HCs
              go_upto_region 13 with fail
              go_quiet (fail)
              go_upto_region 14 with fail
              have IHq : Hid (∀ W, Below W4.heap.size W4 W → Calls Tryz.prog 72 #[.string ⟨kd.toArray⟩, .string ⟨lr.toArray⟩, .slice A1 m c1] W fun e w' => e = .returned (.tuple #[.string ⟨fv.toArray⟩, .bool fb]) ∧ Below W.heap.size W w') := Lib.hid (fun W hW => IHc.out W (F4.out.b.nxt hW))
              go_region_held3 (fun w' => w'.cell? ⟨nb, 3, none⟩ = some (.string ⟨kd.toArray⟩)) (first | go_keep | assumption) ((go_at_call 72; (with_reducible refine (IHq.out _ ?_).mono ?_); (first | exact below_drewN (Below.refl _ _) _ | exact (below_drewN (Below.refl _ _) _).drew | exact Below.refl _ _ | exact (Below.refl _ _).drew); rintro e w5 ⟨rfl, hb⟩; have C5 : Below W4.heap.size W4 w5 := (by first | exact hb | exact hb.start | exact hb.start_drewN | exact hb.start.start_drewN); have d3 : w5.cell? ⟨nb, 3, none⟩ = some (.string ⟨kd.toArray⟩) := (C5.cell (p := ⟨nb, 3, none⟩) HLt.out).trans c3; clear hb))
              go_wp2_with fail
              exact HP.out _ _ _ HX.out (F4.out.b.nxt C5)
            · rw [if_neg (fun h => hpt h.2)] at hst
              rw [hst] at HX
              rw [if_pos rfl] at HX
              have hpp : (left.take p.length == p) = false := by simp [hpt]
              clear hpl hpt hk32 IH HFl hst HNV t2
              generalize left.take p.length = lt at *
              go_enter Tryz.func72, Tryz.ntmps72
              go_wp2_with fail
              refine (HTag.out _).mono ?_
              rintro e w1 ⟨rfl, hb1⟩
              have HB1 := Lib.hid hb1
              have r1 := HCell.out _ hb1
              clear hb1 r0
              go_wp2_with fail
              refine (HDec.out _).mono ?_
              rintro e w2 ⟨rfl, hb2⟩
              have HB2 := Lib.hid (HB1.out.nxt hb2)
              have F3 : Hid (Live w (w2.alloc (.cells #[.int .i64 0, .string ⟨#[]⟩, .string ⟨#[]⟩, .string ⟨#[]⟩, .string ⟨#[]⟩, .string ⟨#[]⟩, .string ⟨#[]⟩, .string ⟨#[]⟩, .string ⟨#[]⟩, .string ⟨#[]⟩, .string ⟨#[]⟩, .string ⟨#[]⟩, .string ⟨#[]⟩, .string ⟨#[]⟩, .string ⟨#[]⟩, .string ⟨#[]⟩, .string ⟨#[]⟩, .string ⟨#[]⟩, .string ⟨#[]⟩] 107)) [(w2.heap.size, 107, #[.int .i64 0, .string ⟨#[]⟩, .string ⟨#[]⟩, .string ⟨#[]⟩, .string ⟨#[]⟩, .string ⟨#[]⟩, .string ⟨#[]⟩, .string ⟨#[]⟩, .string ⟨#[]⟩, .string ⟨#[]⟩, .string ⟨#[]⟩, .string ⟨#[]⟩, .string ⟨#[]⟩, .string ⟨#[]⟩, .string ⟨#[]⟩, .string ⟨#[]⟩, .string ⟨#[]⟩, .string ⟨#[]⟩, .string ⟨#[]⟩])]) := Lib.hid (Live.one (HB2.out.alloc HB2.out.size _) HB2.out.size (Blk.new _ _ _))
              have TH : (w2.alloc (.cells #[.int .i64 0, .string ⟨#[]⟩, .string ⟨#[]⟩, .string ⟨#[]⟩, .string ⟨#[]⟩, .string ⟨#[]⟩, .string ⟨#[]⟩, .string ⟨#[]⟩, .string ⟨#[]⟩, .string ⟨#[]⟩, .string ⟨#[]⟩, .string ⟨#[]⟩, .string ⟨#[]⟩, .string ⟨#[]⟩, .string ⟨#[]⟩, .string ⟨#[]⟩, .string ⟨#[]⟩, .string ⟨#[]⟩, .string ⟨#[]⟩] 107)).there w2.heap.size 0 NV.toArray.size := by
                rw [show NV.toArray.size = 19 by rw [List.size_toArray]; exact HSz.out]
                exact F3.out.there 0 19 rfl (by decide)
              have SZ2 : (Tryz.prog.info? 107).map (·.size) = some NV.toArray.size := by rw [List.size_toArray]; exact SZ
              clear hb2 r1
              go_upto_region 4 with ((with_reducible refine at_put 29 ?_); refine wpList_store_mid rfl 107 _ _ rfl w2.heap.size 0 NV.toArray rfl rfl TH SZ2 HON ?_)
              have F4 := Live.hall F3 0 NV.toArray.toList rfl HSz.out.symm
              generalize World.setCells _ w2.heap.size 0 _ = W4 at F4 ⊢
              generalize w2.heap.size = nb at F4 ⊢
              clear TH SZ2 F3 HON SZ
              obtain ⟨c0, c1', c2, c3⟩ := HCs.out W4 nb (F4.out.blk 0 rfl)
              clear c2 c3 HCs
              go_upto_region 13 with fail
              go_quiet (fail)
              go_wp2_with fail
              exact HP.out _ _ _ HX.out (below_drewN F4.out.b _)
          · rw [if_neg (fun h => hpl h.1)] at hst
            rw [hst] at HX
            rw [if_pos rfl] at HX
            have hplI : ((p.length : Int) ≤ left.length) = False := by simp; omega
            clear hpl hk32 IH HFl hst HNV
            go_enter Tryz.func72, Tryz.ntmps72
            go_wp2_with fail
            refine (HTag.out _).mono ?_
            rintro e w1 ⟨rfl, hb1⟩
            have HB1 := Lib.hid hb1
            have r1 := HCell.out _ hb1
            clear hb1 r0
            go_wp2_with fail
            refine (HDec.out _).mono ?_
            rintro e w2 ⟨rfl, hb2⟩
            have HB2 := Lib.hid (HB1.out.nxt hb2)
            have F3 : Hid (Live w (w2.alloc (.cells #[.int .i64 0, .string ⟨#[]⟩, .string ⟨#[]⟩, .string ⟨#[]⟩, .string ⟨#[]⟩, .string ⟨#[]⟩, .string ⟨#[]⟩, .string ⟨#[]⟩, .string ⟨#[]⟩, .string ⟨#[]⟩, .string ⟨#[]⟩, .string ⟨#[]⟩, .string ⟨#[]⟩, .string ⟨#[]⟩, .string ⟨#[]⟩, .string ⟨#[]⟩, .string ⟨#[]⟩, .string ⟨#[]⟩, .string ⟨#[]⟩] 107)) [(w2.heap.size, 107, #[.int .i64 0, .string ⟨#[]⟩, .string ⟨#[]⟩, .string ⟨#[]⟩, .string ⟨#[]⟩, .string ⟨#[]⟩, .string ⟨#[]⟩, .string ⟨#[]⟩, .string ⟨#[]⟩, .string ⟨#[]⟩, .string ⟨#[]⟩, .string ⟨#[]⟩, .string ⟨#[]⟩, .string ⟨#[]⟩, .string ⟨#[]⟩, .string ⟨#[]⟩, .string ⟨#[]⟩, .string ⟨#[]⟩, .string ⟨#[]⟩])]) := Lib.hid (Live.one (HB2.out.alloc HB2.out.size _) HB2.out.size (Blk.new _ _ _))
            have TH : (w2.alloc (.cells #[.int .i64 0, .string ⟨#[]⟩, .string ⟨#[]⟩, .string ⟨#[]⟩, .string ⟨#[]⟩, .string ⟨#[]⟩, .string ⟨#[]⟩, .string ⟨#[]⟩, .string ⟨#[]⟩, .string ⟨#[]⟩, .string ⟨#[]⟩, .string ⟨#[]⟩, .string ⟨#[]⟩, .string ⟨#[]⟩, .string ⟨#[]⟩, .string ⟨#[]⟩, .string ⟨#[]⟩, .string ⟨#[]⟩, .string ⟨#[]⟩] 107)).there w2.heap.size 0 NV.toArray.size := by
              rw [show NV.toArray.size = 19 by rw [List.size_toArray]; exact HSz.out]
              exact F3.out.there 0 19 rfl (by decide)
            have SZ2 : (Tryz.prog.info? 107).map (·.size) = some NV.toArray.size := by rw [List.size_toArray]; exact SZ
            clear hb2 r1
            go_upto_region 4 with ((with_reducible refine at_put 29 ?_); refine wpList_store_mid rfl 107 _ _ rfl w2.heap.size 0 NV.toArray rfl rfl TH SZ2 HON ?_)
            have F4 := Live.hall F3 0 NV.toArray.toList rfl HSz.out.symm
            generalize World.setCells _ w2.heap.size 0 _ = W4 at F4 ⊢
            generalize w2.heap.size = nb at F4 ⊢
            clear TH SZ2 F3 HON SZ
            obtain ⟨c0, c1', c2, c3⟩ := HCs.out W4 nb (F4.out.blk 0 rfl)
            clear c2 c3 HCs
            go_upto_region 13 with fail
            go_quiet (fail)
            go_wp2_with fail
            exact HP.out _ _ _ HX.out (below_drewN F4.out.b _)
        · have hp0 : p = [] := by
            have := HFn.out
            unfold fineN at this
            rw [if_neg (by decide), if_neg (by decide), if_pos rfl] at this
            simp only [Bool.and_eq_true] at this
            simpa using this.1.1.1
          subst hp0
          cases left with
          | nil =>
            rw [show stepW (3, [], v, K) [] = ([], v) from rfl, if_pos rfl] at HX
            clear IH HFl HNV
            go_enter Tryz.func72, Tryz.ntmps72
            go_wp2_with fail
            refine (HTag.out _).mono ?_
            rintro e w1 ⟨rfl, hb1⟩
            have HB1 := Lib.hid hb1
            have r1 := HCell.out _ hb1
            clear hb1 r0
            go_wp2_with fail
            refine (HDec.out _).mono ?_
            rintro e w2 ⟨rfl, hb2⟩
            have HB2 := Lib.hid (HB1.out.nxt hb2)
            have F3 : Hid (Live w (w2.alloc (.cells #[.int .i64 0, .string ⟨#[]⟩, .string ⟨#[]⟩, .string ⟨#[]⟩, .string ⟨#[]⟩, .string ⟨#[]⟩, .string ⟨#[]⟩, .string ⟨#[]⟩, .string ⟨#[]⟩, .string ⟨#[]⟩, .string ⟨#[]⟩, .string ⟨#[]⟩, .string ⟨#[]⟩, .string ⟨#[]⟩, .string ⟨#[]⟩, .string ⟨#[]⟩, .string ⟨#[]⟩, .string ⟨#[]⟩, .string ⟨#[]⟩] 107)) [(w2.heap.size, 107, #[.int .i64 0, .string ⟨#[]⟩, .string ⟨#[]⟩, .string ⟨#[]⟩, .string ⟨#[]⟩, .string ⟨#[]⟩, .string ⟨#[]⟩, .string ⟨#[]⟩, .string ⟨#[]⟩, .string ⟨#[]⟩, .string ⟨#[]⟩, .string ⟨#[]⟩, .string ⟨#[]⟩, .string ⟨#[]⟩, .string ⟨#[]⟩, .string ⟨#[]⟩, .string ⟨#[]⟩, .string ⟨#[]⟩, .string ⟨#[]⟩])]) := Lib.hid (Live.one (HB2.out.alloc HB2.out.size _) HB2.out.size (Blk.new _ _ _))
            have TH : (w2.alloc (.cells #[.int .i64 0, .string ⟨#[]⟩, .string ⟨#[]⟩, .string ⟨#[]⟩, .string ⟨#[]⟩, .string ⟨#[]⟩, .string ⟨#[]⟩, .string ⟨#[]⟩, .string ⟨#[]⟩, .string ⟨#[]⟩, .string ⟨#[]⟩, .string ⟨#[]⟩, .string ⟨#[]⟩, .string ⟨#[]⟩, .string ⟨#[]⟩, .string ⟨#[]⟩, .string ⟨#[]⟩, .string ⟨#[]⟩, .string ⟨#[]⟩] 107)).there w2.heap.size 0 NV.toArray.size := by
              rw [show NV.toArray.size = 19 by rw [List.size_toArray]; exact HSz.out]
              exact F3.out.there 0 19 rfl (by decide)
            have SZ2 : (Tryz.prog.info? 107).map (·.size) = some NV.toArray.size := by rw [List.size_toArray]; exact SZ
            clear hb2 r1
            go_upto_region 4 with ((with_reducible refine at_put 29 ?_); refine wpList_store_mid rfl 107 _ _ rfl w2.heap.size 0 NV.toArray rfl rfl TH SZ2 HON ?_)
            have F4 := Live.hall F3 0 NV.toArray.toList rfl HSz.out.symm
            generalize World.setCells _ w2.heap.size 0 _ = W4 at F4 ⊢
            generalize w2.heap.size = nb at F4 ⊢
            clear TH SZ2 F3 HON SZ
            obtain ⟨c0, c1', c2, _⟩ := HCs.out W4 nb (F4.out.blk 0 rfl)
            clear HCs
            go_wp2_with fail
            exact HP.out _ _ _ HX.out F4.out.b
          | cons b lr =>
            rw [Trie.stepW_branch] at HX
            obtain ⟨hb15, hlr⟩ := Nib.fit_cons HFl.out.2
            have hb16 : b.toNat < 16 := by rw [UInt8.le_iff_toNat_le] at hb15; simp at hb15; omega
            have hbI : (b.toNat : Int) < 16 := by omega
            have hb0 : (0 : Int) ≤ b.toNat := by omega
            have HTl := run_tail b lr
            have ne1 : ((b :: lr).toArray = #[]) = False := by simp
            have ne2 : (b :: lr).isEmpty = false := rfl
            have hwb : wrap64 (b.toNat : Int) = (b.toNat : Int) := IntWalk.wrap64_in _ (by constructor <;> omega)
            have hix : ∀ W, (Instr.index 9 (.string ⟨(b :: lr).toArray⟩) (.int .i64 0)).run Tryz.prog W = .ok (.int .u8 (b.toNat : Int)) W := fun W => run_byte (b :: lr) 0 (by simp) W
            have hll : lr.length ≤ 100000 := by have := HFl.out.1; simp at this; omega
            have IHc := Lib.hid (fun W hW => IH.out (K.getD b.toNat []) lr W hll hlr hW)
            have HB16 := Lib.hid hb16
            clear hb15 hlr hb16 HFl IH HNV
            generalize hl' : (b :: lr) = left at *
            clear hl'
            by_cases hkd : K.getD b.toNat [] = []
            · rw [if_pos hkd] at HX
              rw [if_pos rfl] at HX
              clear IHc
              go_enter Tryz.func72, Tryz.ntmps72
              go_wp2_with fail
              refine (HTag.out _).mono ?_
              rintro e w1 ⟨rfl, hb1⟩
              have HB1 := Lib.hid hb1
              have r1 := HCell.out _ hb1
              clear hb1 r0
              go_wp2_with fail
              refine (HDec.out _).mono ?_
              rintro e w2 ⟨rfl, hb2⟩
              have HB2 := Lib.hid (HB1.out.nxt hb2)
              have F3 : Hid (Live w (w2.alloc (.cells #[.int .i64 0, .string ⟨#[]⟩, .string ⟨#[]⟩, .string ⟨#[]⟩, .string ⟨#[]⟩, .string ⟨#[]⟩, .string ⟨#[]⟩, .string ⟨#[]⟩, .string ⟨#[]⟩, .string ⟨#[]⟩, .string ⟨#[]⟩, .string ⟨#[]⟩, .string ⟨#[]⟩, .string ⟨#[]⟩, .string ⟨#[]⟩, .string ⟨#[]⟩, .string ⟨#[]⟩, .string ⟨#[]⟩, .string ⟨#[]⟩] 107)) [(w2.heap.size, 107, #[.int .i64 0, .string ⟨#[]⟩, .string ⟨#[]⟩, .string ⟨#[]⟩, .string ⟨#[]⟩, .string ⟨#[]⟩, .string ⟨#[]⟩, .string ⟨#[]⟩, .string ⟨#[]⟩, .string ⟨#[]⟩, .string ⟨#[]⟩, .string ⟨#[]⟩, .string ⟨#[]⟩, .string ⟨#[]⟩, .string ⟨#[]⟩, .string ⟨#[]⟩, .string ⟨#[]⟩, .string ⟨#[]⟩, .string ⟨#[]⟩])]) := Lib.hid (Live.one (HB2.out.alloc HB2.out.size _) HB2.out.size (Blk.new _ _ _))
              have TH : (w2.alloc (.cells #[.int .i64 0, .string ⟨#[]⟩, .string ⟨#[]⟩, .string ⟨#[]⟩, .string ⟨#[]⟩, .string ⟨#[]⟩, .string ⟨#[]⟩, .string ⟨#[]⟩, .string ⟨#[]⟩, .string ⟨#[]⟩, .string ⟨#[]⟩, .string ⟨#[]⟩, .string ⟨#[]⟩, .string ⟨#[]⟩, .string ⟨#[]⟩, .string ⟨#[]⟩, .string ⟨#[]⟩, .string ⟨#[]⟩, .string ⟨#[]⟩] 107)).there w2.heap.size 0 NV.toArray.size := by
                rw [show NV.toArray.size = 19 by rw [List.size_toArray]; exact HSz.out]
                exact F3.out.there 0 19 rfl (by decide)
              have SZ2 : (Tryz.prog.info? 107).map (·.size) = some NV.toArray.size := by rw [List.size_toArray]; exact SZ
              clear hb2 r1
              go_upto_region 4 with ((with_reducible refine at_put 29 ?_); refine wpList_store_mid rfl 107 _ _ rfl w2.heap.size 0 NV.toArray rfl rfl TH SZ2 HON ?_)
              have F4 := Live.hall F3 0 NV.toArray.toList rfl HSz.out.symm
              generalize World.setCells _ w2.heap.size 0 _ = W4 at F4 ⊢
              generalize w2.heap.size = nb at F4 ⊢
              clear TH SZ2 F3 HON SZ
              obtain ⟨c0, c1', c2, c3⟩ := HCs.out W4 nb (F4.out.blk 0 rfl)
              have c3 := c3 b.toNat HB16.out
              rw [hkd] at c3
              clear HCs c2 hkd
              generalize b.toNat = bn at *
              go_wp2_with fail
              exact HP.out _ _ _ HX.out F4.out.b
            · rw [if_neg hkd] at HX
              simp only at HX
              rw [if_neg hkd] at HX
              go_enter Tryz.func72, Tryz.ntmps72
              go_wp2_with fail
              refine (HTag.out _).mono ?_
              rintro e w1 ⟨rfl, hb1⟩
              have HB1 := Lib.hid hb1
              have r1 := HCell.out _ hb1
              clear hb1 r0
              go_wp2_with fail
              refine (HDec.out _).mono ?_
              rintro e w2 ⟨rfl, hb2⟩
              have HB2 := Lib.hid (HB1.out.nxt hb2)
              have F3 : Hid (Live w (w2.alloc (.cells #[.int .i64 0, .string ⟨#[]⟩, .string ⟨#[]⟩, .string ⟨#[]⟩, .string ⟨#[]⟩, .string ⟨#[]⟩, .string ⟨#[]⟩, .string ⟨#[]⟩, .string ⟨#[]⟩, .string ⟨#[]⟩, .string ⟨#[]⟩, .string ⟨#[]⟩, .string ⟨#[]⟩, .string ⟨#[]⟩, .string ⟨#[]⟩, .string ⟨#[]⟩, .string ⟨#[]⟩, .string ⟨#[]⟩, .string ⟨#[]⟩] 107)) [(w2.heap.size, 107, #[.int .i64 0, .string ⟨#[]⟩, .string ⟨#[]⟩, .string ⟨#[]⟩, .string ⟨#[]⟩, .string ⟨#[]⟩, .string ⟨#[]⟩, .string ⟨#[]⟩, .string ⟨#[]⟩, .string ⟨#[]⟩, .string ⟨#[]⟩, .string ⟨#[]⟩, .string ⟨#[]⟩, .string ⟨#[]⟩, .string ⟨#[]⟩, .string ⟨#[]⟩, .string ⟨#[]⟩, .string ⟨#[]⟩, .string ⟨#[]⟩])]) := Lib.hid (Live.one (HB2.out.alloc HB2.out.size _) HB2.out.size (Blk.new _ _ _))
              have TH : (w2.alloc (.cells #[.int .i64 0, .string ⟨#[]⟩, .string ⟨#[]⟩, .string ⟨#[]⟩, .string ⟨#[]⟩, .string ⟨#[]⟩, .string ⟨#[]⟩, .string ⟨#[]⟩, .string ⟨#[]⟩, .string ⟨#[]⟩, .string ⟨#[]⟩, .string ⟨#[]⟩, .string ⟨#[]⟩, .string ⟨#[]⟩, .string ⟨#[]⟩, .string ⟨#[]⟩, .string ⟨#[]⟩, .string ⟨#[]⟩, .string ⟨#[]⟩] 107)).there w2.heap.size 0 NV.toArray.size := by
                rw [show NV.toArray.size = 19 by rw [List.size_toArray]; exact HSz.out]
                exact F3.out.there 0 19 rfl (by decide)
              have SZ2 : (Tryz.prog.info? 107).map (·.size) = some NV.toArray.size := by rw [List.size_toArray]; exact SZ
              clear hb2 r1
              go_upto_region 4 with ((with_reducible refine at_put 29 ?_); refine wpList_store_mid rfl 107 _ _ rfl w2.heap.size 0 NV.toArray rfl rfl TH SZ2 HON ?_)
              have F4 := Live.hall F3 0 NV.toArray.toList rfl HSz.out.symm
              generalize World.setCells _ w2.heap.size 0 _ = W4 at F4 ⊢
              generalize w2.heap.size = nb at F4 ⊢
              clear TH SZ2 F3 HON SZ
              obtain ⟨c0, c1', c2, c3⟩ := HCs.out W4 nb (F4.out.blk 0 rfl)
              have c3 := c3 b.toNat HB16.out
              clear HCs c2
              generalize K.getD b.toNat [] = kd at *
              generalize b.toNat = bn at *
              have ne3 : (kd.toArray = #[]) = False := by simp [hkd]
              have ne4 : kd.isEmpty = false := by simp [hkd]
              clear hkd
              generalize rfolW kd lr r = fr at *
              obtain ⟨fv, fb⟩ := fr
              unfold RFolEnd at IHc
              simp only at IHc
              go_wp2_with fail
              refine (IHc.out _ F4.out.b).mono ?_
              rintro e w5 ⟨rfl, hb5⟩
              have HB5 := Lib.hid (F4.out.b.nxt hb5)
              clear hb5
              go_wp2_with fail
              exact HP.out _ _ _ HX.out HB5.out
    · rw [if_pos (.inl hsum)] at HX
      have hs1 : (sm == sum) = false := by simp [hsum]
      clear hsum hsm HDc IH HFl hmz
      go_enter Tryz.func72, Tryz.ntmps72
      go_wp2_with fail
      refine (HTag.out _).mono ?_
      rintro e w1 ⟨rfl, hb1⟩
      have HB1 := Lib.hid hb1
      have r1 := HCell.out _ hb1
      clear hb1 r0
      go_wp2_with fail
      exact HP.out _ _ _ HX.out HB1.out
end Go.Proofs.YtcjafcbekegmlaaGreatDoor
