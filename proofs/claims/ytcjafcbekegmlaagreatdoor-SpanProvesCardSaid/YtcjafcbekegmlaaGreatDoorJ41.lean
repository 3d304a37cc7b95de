import Derived.Test.YtcjafcbekegmlaaGreatDoorJ40
import Derived.Test.YtcjafcbekegmlaaGreatDoorJ28
import Derived.Test.YtcjafcbekegmlaaGreatDoorJ25
import Derived.Test.YtcjafcbekegmlaaGreatDoorJ13
import Derived.Test.YtcjafcbekegmlaaGreatDoorJ32
set_option linter.unusedSimpArgs false
set_option linter.unusedVariables false
namespace Go.Proofs.YtcjafcbekegmlaaGreatDoor
set_option linter.unusedVariables false
open Go.RowKit Go.Shelf Go.Instr
attribute [local go_sem] ba_get ByteArray.mk_append_mk
attribute [local go_sem] Oper.semAt_some
def kvA (x : Trie.KV) : Array Value := #[.agg #[.string ⟨x.1.toArray⟩, .string ⟨x.2.toArray⟩]]
set_option maxRecDepth 100000 in
set_option maxHeartbeats 4000000 in
theorem scan_iter (w0 : World) (t : Trie.T) (v : Value) (hT : TrieP w0 t v) (hc : Trie.count t ≤ 20000) (f e : List UInt8) (b b1 : Nat) (hv : w0.cell? ⟨b1, 0, none⟩ = some v) (hf : w0.cell? ⟨b1 + 1, 0, none⟩ = some (.string ⟨f.toArray⟩)) (he : w0.cell? ⟨b1 + 1 + 1, 0, none⟩ = some (.string ⟨e.toArray⟩)) (hb1 : b + 2 < b1) (hnil : w0.cell? ⟨b, 0, none⟩ = some (.slice none 0 0)) :
    SeqStopsK Fence.wide 5 Tryz.prog 114 #[.pointer (some ⟨b1, 0, none⟩), .pointer (some ⟨b1 + 1, 0, none⟩), .pointer (some ⟨b1 + 1 + 1, 0, none⟩)] kvA (KpI b) (fun ys => ys = Trie.allIn (Trie.itemsW t) f e) (fun pre => pre <+: Trie.allIn (Trie.itemsW t) f e) (Trie.allIn (Trie.itemsW t) f e).length w0 := by
  intro l J Jx W hW hJ hJx hY h0
  have hlt : ∀ {g : Nat} {u : Value}, w0.cell? ⟨g, 0, none⟩ = some u → g < w0.heap.size := fun h => World.block_lt_of_cell? _ _ h
  have cv : W.cell? ⟨b1, 0, none⟩ = some v := (hW.cell (p := ⟨b1, 0, none⟩) (hlt hv)).trans hv
  have HC2 : Hid (W.cell? ⟨b1 + 1, 0, none⟩ = some (.string ⟨f.toArray⟩)) := Lib.hid ((hW.cell (p := ⟨b1 + 1, 0, none⟩) (hlt hf)).trans hf)
  have HC3 : Hid (W.cell? ⟨b1 + 1 + 1, 0, none⟩ = some (.string ⟨e.toArray⟩)) := Lib.hid ((hW.cell (p := ⟨b1 + 1 + 1, 0, none⟩) (hlt he)).trans he)
  have HN : Hid (W.cell? ⟨b, 0, none⟩ = some (.slice none 0 0)) := Lib.hid ((hW.cell (p := ⟨b, 0, none⟩) (hlt hnil)).trans hnil)
  have HBL : Hid (b < W.heap.size ∧ b1 + 1 + 1 < W.heap.size) := Lib.hid (by have := hlt he; have := hlt hnil; have := hW.size; omega)
  have HIt : Hid (Calls Tryz.prog 115 #[v] W (ItemsEnd W (Trie.itemsW t))) := Lib.hid (trie_Items W t v (hT.next hW) hc)
  have hr := Trie.rises_itemsW hT.1
  have hLc : (Trie.itemsW t).length ≤ 20000 := by rw [Trie.itemsW, List.length_map, Trie.length_items]; exact hc
  have HJ0 : Hid (∀ {pre : List Trie.KV} {W W' : World}, J pre W → Below W.heap.size W W' → J pre W') := Lib.hid (fun hj hb => iter_next hJ hj hb)
  have HY := Lib.hid hY
  have HJs := Lib.hid h0
  have HR : Hid (Trie.rises (Trie.itemsW t)) := Lib.hid hr
  have HP : Hid (∀ W' : World, (∃ u, Ending.returned (.tuple #[]) = .returned u) ∧ ((J (Trie.allIn (Trie.itemsW t) f e) W' ∨ ∃ pre, pre <+: Trie.allIn (Trie.itemsW t) f e ∧ Jx pre W')) → (fun (e1 : Ending) W' => (∃ v, e1 = .returned v) ∧ ((∃ xs, xs = Trie.allIn (Trie.itemsW t) f e ∧ J xs W') ∨ (∃ pre, pre <+: Trie.allIn (Trie.itemsW t) f e ∧ Jx pre W'))) (.returned (.tuple #[])) W') := Lib.hid (fun W' h => ⟨h.1, by
    rcases h.2 with h | h
    · exact .inl ⟨_, rfl, h⟩
    · exact .inr h⟩)
  show CallsIn _ _ _ _ _ _ (fun (e1 : Ending) W' => (∃ v, e1 = .returned v) ∧ ((∃ xs, xs = Trie.allIn (Trie.itemsW t) f e ∧ J xs W') ∨ (∃ pre, pre <+: Trie.allIn (Trie.itemsW t) f e ∧ Jx pre W')))
  generalize (fun (e1 : Ending) (W' : World) => (∃ v, e1 = Ending.returned v) ∧ ((∃ xs, xs = Trie.allIn (Trie.itemsW t) f e ∧ J xs W') ∨ (∃ pre, pre <+: Trie.allIn (Trie.itemsW t) f e ∧ Jx pre W'))) = P at HP ⊢
  clear hY h0 hv hf he hnil hW hT hc hr hJ hJx
  generalize Trie.itemsW t = L at *
  refine callsIn_of_wp Tryz.func114 rfl trivial ?_ rfl
  simp only [Tryz.ntmps114, List.size_toArray, List.length_cons, List.length_nil, Nat.reduceAdd, Nat.reduceSub, Array.replicate_succ, Array.replicate_zero, List.push_toArray, List.append_toArray, List.nil_append, List.cons_append]
  gi_wp2_with (refine ⟨trivial, ?_⟩; gi_at_call 115; refine ((callsIn_wide.2 HIt.out)).mono ?_; rintro e1 W1 ⟨A, n, c, rfl, hn, own, hb⟩; have HOw := Lib.hid (And.intro hn (And.intro own hb)); clear hn own hb)
  obtain rfl := HOw.out.1
  have HJ1 := Lib.hid (HJ0.out HJs.out HOw.out.2.2)
  have HS1 : Hid (KeepS b W1 W1 (fun g => g = b1 + 1 ∨ g = b1 + 1 + 1 ∨ ∃ a, A = some a ∧ g = a.block)) := Lib.hid (KeepS.start ((HOw.out.2.2.cell (p := ⟨b, 0, none⟩) HBL.out.1).trans HN.out) (fun g hg => by
    rcases hg with rfl | rfl | ⟨a, ha, rfl⟩
    · exact ⟨by omega, by omega, by omega, cells_of_cell ((HOw.out.2.2.cell (p := ⟨b1 + 1, 0, none⟩) (by have := HBL.out.2; simp only; omega)).trans HC2.out)⟩
    · exact ⟨by omega, by omega, by omega, cells_of_cell ((HOw.out.2.2.cell (p := ⟨b1 + 1 + 1, 0, none⟩) HBL.out.2).trans HC3.out)⟩
    · rcases HOw.out.2.1.2 with ⟨h, _⟩ | ⟨g, cap, cur, h, hg, hgb, _⟩
      · injection h with h; rw [h] at ha; cases ha
      · injection h with h; rw [h] at ha; injection ha with ha; subst ha
        have := HBL.out.2
        exact ⟨by simp only; omega, by simp only; omega, by simp only; omega, _, hgb, rfl⟩))
  have HC2' : Hid (W1.cell? ⟨b1 + 1, 0, none⟩ = some (.string ⟨f.toArray⟩)) := Lib.hid ((HOw.out.2.2.cell (p := ⟨b1 + 1, 0, none⟩) (by have := HBL.out.2; simp only; omega)).trans HC2.out)
  have HC3' : Hid (W1.cell? ⟨b1 + 1 + 1, 0, none⟩ = some (.string ⟨e.toArray⟩)) := Lib.hid ((HOw.out.2.2.cell (p := ⟨b1 + 1 + 1, 0, none⟩) HBL.out.2).trans HC3.out)
  have HBL1 : Hid (b < W1.heap.size ∧ b1 + 1 + 1 < W1.heap.size) := Lib.hid ⟨Nat.lt_of_lt_of_le HBL.out.1 HOw.out.2.2.size, Nat.lt_of_lt_of_le HBL.out.2 HOw.out.2.2.size⟩
  have HRd : Hid (Reads W1 W1.heap.size 2 A L.length (icells L)) := Lib.hid (Reads.of_own HOw.out.2.1)
  have hL9 : (L.length : Int) ≤ 20000 := by omega
  clear HOw HC2 HC3 HN HBL HIt HJs cv hlt hb1 hLc
  gi_wp2
  refine wpIn_loop_ghost_k (fun k a wr => ∀ Φ : Act → Prop, (∀ (s4 s5 s6 s7 s11 s12 s13 s14 s15 s16 s17 s18 s19 s20 s21 s22 s23 s24 s25 s26 s27 s28 s29 s30 s31 s32 : Value) (i : Nat) (pre : List Trie.KV), (i + k = L.length ∧ pre = Trie.allIn (L.take i) f e ∧ J pre wr ∧ KeepS b W1 wr (fun g => g = b1 + 1 ∨ g = b1 + 1 + 1 ∨ ∃ a, A = some a ∧ g = a.block)) → Φ { tmps := #[.func (.yield l) #[] #[], .pointer (some ⟨b1, 0, none⟩), .pointer (some ⟨b1 + 1, 0, none⟩), .pointer (some ⟨b1 + 1 + 1, 0, none⟩), s4, s5, s6, s7, .slice A L.length c, .int .i64 L.length, .int .i64 (i : Int), s11, s12, s13, s14, s15, s16, s17, s18, s19, s20, s21, s22, s23, s24, s25, s26, s27, s28, s29, s30, s31, s32], defers := [] }) → Φ a) (L.length) ?_ ?_
  · refine fun Φ hΦ => hΦ _ _ _ _ _ _ _ _ _ _ _ _ _ _ _ _ _ _ _ _ _ _ _ _ _ _ (0) ([]) ?_
    exact ⟨by omega, rfl, HJ1.out, HS1.out⟩
  · intro k1 a1 wr1 hI1 J1 K1 hJ1 hK1
    refine hI1 (fun a => Code.wpIn _ _ _ _ _ a _) ?_
    clear hI1 a1
    intro s0 s1 s2 s3 s4 s5 s6 s7 s8 s9 s10 s11 s12 s13 s14 s15 s16 s17 s18 s19 s20 s21 s22 s23 s24 s25 i pre hrel
    show Code.wpIn _ _ _ _ _ _ _
    clear HJ1 HS1
    obtain ⟨h1, h2, hj, hs⟩ := hrel
    have HE := Lib.hid (And.intro h1 (And.intro h2 (And.intro hj hs)))
    clear h1 h2 hj hs
    by_cases hi : i < L.length
    · obtain ⟨ad, off, rfl, hbl, hcell⟩ := item_cells HRd.out hi
      obtain ⟨q0, q1⟩ := hcell _ (Below.refl _ _)
      rw [← HE.out.2.2.2.cell (p := ⟨ad, off + i * 2, none⟩) (.inr (.inr ⟨_, rfl, rfl⟩))] at q0
      rw [← HE.out.2.2.2.cell (p := ⟨ad, off + i * 2 + 1, none⟩) (.inr (.inr ⟨_, rfl, rfl⟩))] at q1
      have c2 := (HE.out.2.2.2.cell (p := ⟨b1 + 1, 0, none⟩) (.inl rfl)).trans HC2'.out
      have c3 := (HE.out.2.2.2.cell (p := ⟨b1 + 1 + 1, 0, none⟩) (.inr (.inl rfl))).trans HC3'.out
      have hi1 : (i : Int) < L.length := by omega
      have hi0 : (0 : Int) ≤ i := by omega
      have hlt : b < wr1.heap.size := Nat.lt_of_lt_of_le HBL1.out.1 HE.out.2.2.2.size
      have a2 : ∀ o : Obj, (wr1.alloc o).cell? ⟨b1 + 1, 0, none⟩ = some (.string ⟨f.toArray⟩) := fun o => ((HE.out.2.2.2.alloc hlt o).cell (p := ⟨b1 + 1, 0, none⟩) (.inl rfl)).trans HC2'.out
      have a3 : ∀ o : Obj, (wr1.alloc o).cell? ⟨b1 + 1 + 1, 0, none⟩ = some (.string ⟨e.toArray⟩) := fun o => ((HE.out.2.2.2.alloc hlt o).cell (p := ⟨b1 + 1 + 1, 0, none⟩) (.inr (.inl rfl))).trans HC3'.out
      have HAl : Hid (∀ o : Obj, J pre (wr1.alloc o) ∧ KeepS b W1 (wr1.alloc o) (fun g => g = b1 + 1 ∨ g = b1 + 1 + 1 ∨ ∃ a, some (⟨ad, off, none⟩ : Addr) = some a ∧ g = a.block)) := Lib.hid (fun o => ⟨HJ0.out HE.out.2.2.1 ((Below.refl _ _).alloc (Nat.le_refl _) _), HE.out.2.2.2.alloc hlt o⟩)
      have HSn : Hid (Trie.allIn (L.take (i + 1)) f e = if Trie.inK f e L[i].1 = true then pre ++ [L[i]] else pre) := Lib.hid (by
        rw [List.take_succ_eq_append_getElem hi, allIn_snoc, ← HE.out.2.1])
      have HSt : Hid (e ≠ [] → Op.bytesLess L[i].1 e = false → Trie.allIn L f e = pre) := Lib.hid (fun h1 h2 => (allIn_stop HR.out f e h1 i hi h2).trans HE.out.2.1.symm)
      have HPf : Hid (Trie.inK f e L[i].1 = true → (pre ++ [L[i]]) <+: Trie.allIn L f e) := Lib.hid (fun h => by
        have := allIn_take_le L f e (i + 1)
        rwa [HSn.out, if_pos h] at this)
      clear hcell c2 c3 hlt hbl
      generalize L[i] = x at *
      obtain ⟨ky, vl⟩ := x
      simp only at q0 q1 HSn HSt HPf
      cases k4 : Op.bytesLess ky f with
      | true =>
        have hin : Trie.inK f e ky = false := by unfold Trie.inK; simp [k4]
        rw [hin] at HSn
        clear hin HY
        gi_wp2
        refine Handed.intro (L.length - (i + 1)) ?_ (hJ1 _ _ _ (fun Φ hΦ => hΦ _ _ _ _ _ _ _ _ _ _ _ _ _ _ _ _ _ _ _ _ _ _ _ _ _ _ (i + 1) (pre) ?_))
        · have := HE.out.1; omega
        · exact ⟨by have := HE.out.1; omega, by rw [HSn.out]; rfl, (HAl.out _).1, (HAl.out _).2⟩
      | false =>
        by_cases k5 : e = []
        · subst k5
          have hin : Trie.inK f [] ky = true := by unfold Trie.inK; simp [k4]
          rw [hin, if_pos rfl] at HSn
          have HPf2 := Lib.hid (HPf.out hin)
          have hlen := HPf2.out.length_le
          rw [List.length_append] at hlen
          obtain ⟨fn, tm, asg, bd, hy, hRd⟩ := HY.out pre (ky, vl) _ (HAl.out (.cells #[.string ⟨ky.toArray⟩, .string ⟨vl.toArray⟩] 76)).1 (Nat.lt_of_lt_of_le (by simp) hlen)
          unfold kvA at hy
          dsimp only at hy
          have HRd2 := Lib.hid hRd
          clear hRd hin hlen HPf
          gi_wp2
          refine HRd2.out.mono ?_
          rintro q W3 (⟨rfl, hJ3, hk3⟩ | ⟨rfl, hJx3⟩)
          · have O3 := Lib.hid (And.intro hJ3 ((HAl.out _).2.kp hk3))
            clear hJ3 hk3 hy HRd2
            gi_wp2
            refine Handed.intro (L.length - (i + 1)) ?_ (hJ1 _ _ _ (fun Φ hΦ => hΦ _ _ _ _ _ _ _ _ _ _ _ _ _ _ _ _ _ _ _ _ _ _ _ _ _ _ (i + 1) (pre ++ [(ky, vl)]) ?_))
            · have := HE.out.1; omega
            · exact ⟨by have := HE.out.1; omega, HSn.out.symm, O3.out.1, O3.out.2⟩
          · have O3 := Lib.hid hJx3
            clear hJx3 hy HRd2
            gi_wp2
            refine bodyPost_ret (results_none rfl _ _ _) rfl ?_
            exact HP.out _ ⟨⟨_, rfl⟩, .inr ⟨_, HPf2.out, O3.out⟩⟩
        · have ne1 : (e.toArray = #[]) = False := by simp [k5]
          have ne2 : e.isEmpty = false := by simp [k5]
          cases k6 : Op.bytesLess ky e with
          | true =>
            have hin : Trie.inK f e ky = true := by unfold Trie.inK; simp [k4, k6]
            clear k5
            rw [hin, if_pos rfl] at HSn
            have HPf2 := Lib.hid (HPf.out hin)
            have hlen := HPf2.out.length_le
            rw [List.length_append] at hlen
            obtain ⟨fn, tm, asg, bd, hy, hRd⟩ := HY.out pre (ky, vl) _ (HAl.out (.cells #[.string ⟨ky.toArray⟩, .string ⟨vl.toArray⟩] 76)).1 (Nat.lt_of_lt_of_le (by simp) hlen)
            unfold kvA at hy
            dsimp only at hy
            have HRd2 := Lib.hid hRd
            clear hRd hin hlen HPf
            gi_wp2
            refine HRd2.out.mono ?_
            rintro q W3 (⟨rfl, hJ3, hk3⟩ | ⟨rfl, hJx3⟩)
            · have O3 := Lib.hid (And.intro hJ3 ((HAl.out _).2.kp hk3))
              clear hJ3 hk3 hy HRd2
              gi_wp2
              refine Handed.intro (L.length - (i + 1)) ?_ (hJ1 _ _ _ (fun Φ hΦ => hΦ _ _ _ _ _ _ _ _ _ _ _ _ _ _ _ _ _ _ _ _ _ _ _ _ _ _ (i + 1) (pre ++ [(ky, vl)]) ?_))
              · have := HE.out.1; omega
              · exact ⟨by have := HE.out.1; omega, HSn.out.symm, O3.out.1, O3.out.2⟩
            · have O3 := Lib.hid hJx3
              clear hJx3 hy HRd2
              gi_wp2
              refine bodyPost_ret (results_none rfl _ _ _) rfl ?_
              exact HP.out _ ⟨⟨_, rfl⟩, .inr ⟨_, HPf2.out, O3.out⟩⟩
          | false =>
            have HF := Lib.hid (HSt.out k5 k6)
            clear k5 HY
            gi_wp2
            refine ⟨fun _ h => (by cases h), ?_⟩
            gi_wp2
            refine bodyPost_ret (results_none rfl _ _ _) rfl ?_
            exact HP.out _ ⟨⟨_, rfl⟩, .inl (by rw [HF.out]; exact (HAl.out _).1)⟩
    · have hi1 : ((i : Int) < L.length) = False := by simp; omega
      have HF : Hid (Trie.allIn L f e = pre) := Lib.hid (by rw [HE.out.2.1, List.take_of_length_le (by omega)])
      clear HY
      gi_wp2
      go_end0
      exact HP.out _ ⟨⟨_, rfl⟩, .inl (by rw [HF.out]; exact HE.out.2.2.1)⟩
end Go.Proofs.YtcjafcbekegmlaaGreatDoor

namespace Go.Proofs.YtcjafcbekegmlaaGreatDoor
set_option linter.unusedVariables false
open Go.RowKit Go.Shelf Go.Instr
attribute [local go_sem] ba_get ByteArray.mk_append_mk
attribute [local go_sem] Oper.semAt_some
def RangeEnd (w : World) (r : List Trie.KV × List UInt8) (cd : Nat) (e : Ending) (w' : World) : Prop :=
  ∃ v, e = .returned (.tuple #[v, .string ⟨r.2.toArray⟩, .int .i64 (cd : Int)]) ∧ w'.ownsRow w.heap.size 76 2 v r.1.length (icells r.1) ∧ Below w.heap.size w w'
theorem below_keeps {B : Nat} {W W' : World} (h : Below W.heap.size W W') : KeepsFrom B W W' := ⟨h.size, fun k o _ hk _ => (h.block k (Array.getElem?_eq_some_iff.1 hk).1).trans hk⟩
theorem below_kp {b : Nat} {W W' : World} (hb : b < W.heap.size) (h : Below W.heap.size W W') : KpI b W W' := by
  refine ⟨h.size, fun g hs => ?_⟩
  obtain ⟨a1, a2, a3, ⟨o, a4, a5⟩, a6⟩ := hs
  have hg := (Array.getElem?_eq_some_iff.1 a4).1
  refine ⟨h.block g hg, fun o2 n c => ?_⟩
  rw [cell_of_heap (W := W) (h.block b hb)]
  exact a6 o2 n c
def RgI (w : World) (b m : Nat) (pre : List Trie.KV) (W : World) : Prop :=
  ((∃ v, Boxed W b 39 v ∧ W.ownsRow w.heap.size 76 2 v pre.length (icells pre) ∧ True) ∧ Boxed W (b - 1) 3 (.int .i64 (m : Int)) ∧ Boxed W (b + 1) 9 (.string ⟨#[]⟩) ∧ Boxed W (b + 2) 27 (.int .i64 0) ∧ pre.length ≤ m) ∧ Below w.heap.size w W
def RgX (w : World) (b m : Nat) (c : Code) (pre : List Trie.KV) (W : World) : Prop :=
  ((∃ v, Boxed W b 39 v ∧ W.ownsRow w.heap.size 76 2 v (pre.length - 1) (icells pre.dropLast) ∧ True) ∧ Boxed W (b + 1) 9 (.string ⟨(Trie.behindW (pre.dropLast.getD (m - 1) ([], [])).1).toArray⟩) ∧ Boxed W (b + 2) 27 (.int .i64 0) ∧ (c = .ret ∧ pre.length = m + 1)) ∧ Below w.heap.size w W
theorem rgI_own (w : World) (b m B : Nat) (hB : w.heap.size ≤ B) : OwnFrom B (RgI w b m) :=
  OwnFrom.and (OwnFrom.and (Own.from (holdsRow_own w.heap.size b 39 76 2 (fun pre : List Trie.KV => pre.length) (fun pre => icells pre) (fun _ _ => True)) _) (OwnFrom.and (Own.from (boxed_own _ _ _) _) (OwnFrom.and (Own.from (boxed_own _ _ _) _) (OwnFrom.and (Own.from (boxed_own _ _ _) _) (ownFrom_pure _ _))))) (ownFrom_below (Nat.le_refl _) hB)
theorem rgX_own (w : World) (b m B : Nat) (hB : w.heap.size ≤ B) (c : Code) : OwnFrom B (RgX w b m c) :=
  OwnFrom.and (OwnFrom.and (Own.from (holdsRow_own w.heap.size b 39 76 2 (fun pre : List Trie.KV => pre.length - 1) (fun pre => icells pre.dropLast) (fun _ _ => True)) _) (OwnFrom.and (Own.from (boxed_own _ _ _) _) (OwnFrom.and (Own.from (boxed_own _ _ _) _) (ownFrom_pure _ _)))) (ownFrom_below (Nat.le_refl _) hB)
theorem RgI.next {w : World} {b m : Nat} {pre : List Trie.KV} {W W' : World} (h : RgI w b m pre W) (hb : Below W.heap.size W W') : RgI w b m pre W' := by
  obtain ⟨⟨⟨v, h1, h2, _⟩, h3, h4, h5, h6⟩, h7⟩ := h
  have key : ∀ {g : Nat} {t : TypeId} {u : Value}, Boxed W g t u → Boxed W' g t u := fun h => (hb.block _ h.lt).trans h
  exact ⟨⟨⟨v, key h1, own_below h2 hb, trivial⟩, key h3, key h4, key h5, h6⟩, h7.nxt hb⟩
theorem range_results {W : World} {tmps : Array Value} {b1 b2 b3 : Nat} {v1 v2 v3 : Value} (h8 : tmps[8]? = some (.pointer (some ⟨b1, 0, none⟩))) (h9 : tmps[9]? = some (.pointer (some ⟨b2, 0, none⟩))) (h10 : tmps[10]? = some (.pointer (some ⟨b3, 0, none⟩)))
    (c1 : W.cell? ⟨b1, 0, none⟩ = some v1) (c2 : W.cell? ⟨b2, 0, none⟩ = some v2) (c3 : W.cell? ⟨b3, 0, none⟩ = some v3) (o1 : v1.oneCell' = true) (o2 : v2.oneCell' = true) (o3 : v3.oneCell' = true) :
    (results Tryz.f45 tmps).run Tryz.prog W = .ok (.tuple #[v1, v2, v3]) W := by
  simp [results, Tryz.f45, go_sem, c1, c2, c3, h8, h9, h10]
set_option maxRecDepth 100000 in
set_option maxHeartbeats 1000000 in
theorem scan_Range_bad (w : World) (v : Value) (f e : ByteArray) (most : Int) (h : most < 1 ∨ 16 < most) :
    Calls Tryz.prog 45 #[v, .string f, .string e, .int .i64 most] w (RangeEnd w ([], []) 1) := by
  have HP : Hid (∀ w', Below w.heap.size w w' → RangeEnd w ([], []) 1 (.returned (.tuple #[.slice none 0 0, .string ⟨#[]⟩, .int .i64 1])) w') := Lib.hid (fun w' h => ⟨_, rfl, World.ownsRow_nil _ _ _ _, h⟩)
  generalize RangeEnd w ([], []) 1 = P at HP ⊢
  by_cases h1 : most < 1
  · clear h
    go_enter Tryz.func45, Tryz.ntmps45
    go_wp2_with fail
    refine bodyPost_ret (v := .tuple #[.slice none 0 0, .string ⟨#[]⟩, .int .i64 1]) ?_ rfl (HP.out _ (by go_grown))
    exact range_results rfl rfl rfl (by first | (simp [go_sem]; done) | (go_simp; done) | trace_state) (by first | (simp [go_sem]; done) | (go_simp; done) | trace_state) (by first | (simp [go_sem]; done) | (go_simp; done) | trace_state) rfl rfl rfl
  · have h2 : (16 : Int) < most := by omega
    have h3 : (most < 1) = False := by simp; omega
    clear h h1
    go_enter Tryz.func45, Tryz.ntmps45
    go_wp2_with fail
    refine bodyPost_ret (v := .tuple #[.slice none 0 0, .string ⟨#[]⟩, .int .i64 1]) ?_ rfl (HP.out _ (by go_grown))
    exact range_results rfl rfl rfl (by first | (simp [go_sem]; done) | (go_simp; done) | trace_state) (by first | (simp [go_sem]; done) | (go_simp; done) | trace_state) (by first | (simp [go_sem]; done) | (go_simp; done) | trace_state) rfl rfl rfl
end Go.Proofs.YtcjafcbekegmlaaGreatDoor

namespace Go.Proofs.YtcjafcbekegmlaaGreatDoor
set_option linter.unusedVariables false
open Go.RowKit Go.Instr
attribute [local go_sem] ba_get ByteArray.mk_append_mk
theorem span_upTo (w : World) (nx e : List UInt8) :
    Calls Tryz.prog 47 #[.string ⟨nx.toArray⟩, .string ⟨e.toArray⟩] w fun r w' => r = .returned (.string ⟨(Trie.upToW nx e).toArray⟩) ∧ w = w' := by
  have HP : Hid (∀ s w', Trie.upToW nx e = s → w = w' → (fun r w' => r = Ending.returned (.string ⟨(Trie.upToW nx e).toArray⟩) ∧ w = w') (Ending.returned (.string ⟨s.toArray⟩)) w') := Lib.hid (fun s w' h1 h2 => ⟨by rw [h1], h2⟩)
  generalize (fun r w' => r = Ending.returned (.string ⟨(Trie.upToW nx e).toArray⟩) ∧ w = w') = P at HP ⊢
  by_cases hn : nx = []
  · subst hn
    have HE : Hid (Trie.upToW [] e = e) := Lib.hid rfl
    go_enter Tryz.func47, Tryz.ntmps47
    go_wp2_with fail
    exact HP.out e _ HE.out rfl
  · have HE : Hid (Trie.upToW nx e = nx) := Lib.hid (by unfold Trie.upToW; rw [if_pos hn])
    have ne1 : (nx.toArray = #[]) = False := by simp [hn]
    have ne2 : nx.isEmpty = false := by simp [hn]
    clear hn
    go_enter Tryz.func47, Tryz.ntmps47
    go_wp2_with fail
    exact HP.out nx _ HE.out rfl
theorem decide_beq (a b : List UInt8) : decide (a = b) = (a == b) := by
  by_cases h : a = b
  · simp [h]
  · simp [h]
set_option maxHeartbeats 2000000 in
theorem span_goesOn (w : World) (items : List Trie.KV) (A : Option Addr) (c : Nat) (HR : Reads w w.heap.size 2 A items.length (icells items)) (nx e : List UInt8) (NV : Value) (most : Nat) (h1 : 1 ≤ most) (h2 : most ≤ 16) (h1' : NV.oneCell' = true) (hil : items.length ≤ 100000) :
    Calls Tryz.prog 52 #[.agg #[.slice A items.length c, .string ⟨nx.toArray⟩, NV], .string ⟨e.toArray⟩, .int .i64 (most : Int)] w (Ret w (.bool (Trie.goesOnW items nx e most))) := by
  have HP : Hid (∀ r w', Trie.goesOnW items nx e most = r → Below w.heap.size w w' → Ret w (.bool (Trie.goesOnW items nx e most)) (Ending.returned (.bool r)) w') := Lib.hid (fun r W' a1 a2 => ⟨by rw [a1], a2⟩)
  have HG : Hid (Trie.goesOnW items nx e most = if most < items.length then false
  else if nx = [] then true
  else if items.length ≠ most ∨ (e ≠ [] ∧ Op.bytesLess nx e = false) then false
  else decide (nx = Trie.behindW (items.getD (most - 1) ([], [])).1)) := Lib.hid rfl
  generalize Ret w (.bool (Trie.goesOnW items nx e most)) = P at HP ⊢
  generalize Trie.goesOnW items nx e most = G at *
  by_cases k1 : most < items.length
  · rw [if_pos k1] at HG
    have kI : (most : Int) < items.length := by omega
    clear HR
    go_enter Tryz.func52, Tryz.ntmps52
    go_upto_region 1 with fail
    obtain ⟨nb, hnb⟩ : ∃ nb, w.heap.size = nb := ⟨_, rfl⟩
    have hb0 : Hid (Blk (w.alloc (.cells #[.slice A items.length c, .string ⟨nx.toArray⟩, NV] 46)) nb 46 #[.slice A items.length c, .string ⟨nx.toArray⟩, NV] ∧ Below w.heap.size w (w.alloc (.cells #[.slice A items.length c, .string ⟨nx.toArray⟩, NV] 46))) := Lib.hid (by subst hnb; exact ⟨Blk.new _ _ _, by go_grown⟩)
    try rw [hnb]
    generalize w.alloc (.cells #[.slice A items.length c, .string ⟨nx.toArray⟩, NV] 46) = W0 at hb0 ⊢
    clear hnb
    have c0 : W0.cell? ⟨nb, 0, none⟩ = some (.slice A items.length c) := hb0.out.1.cell 0
    have c1 : W0.cell? ⟨nb, 1, none⟩ = some (.string ⟨nx.toArray⟩) := hb0.out.1.cell 1
    go_wp2_with fail
    exact HP.out false _ HG.out hb0.out.2
  rw [if_neg k1] at HG
  have kI : ((most : Int) < items.length) = False := by simp; omega
  by_cases k2 : nx = []
  · subst k2
    rw [if_pos rfl] at HG
    clear HR
    go_enter Tryz.func52, Tryz.ntmps52
    go_upto_region 1 with fail
    obtain ⟨nb, hnb⟩ : ∃ nb, w.heap.size = nb := ⟨_, rfl⟩
    have hb0 : Hid (Blk (w.alloc (.cells #[.slice A items.length c, .string ⟨#[]⟩, NV] 46)) nb 46 #[.slice A items.length c, .string ⟨#[]⟩, NV] ∧ Below w.heap.size w (w.alloc (.cells #[.slice A items.length c, .string ⟨#[]⟩, NV] 46))) := Lib.hid (by subst hnb; exact ⟨Blk.new _ _ _, by go_grown⟩)
    try rw [hnb]
    generalize w.alloc (.cells #[.slice A items.length c, .string ⟨#[]⟩, NV] 46) = W0 at hb0 ⊢
    clear hnb
    have c0 : W0.cell? ⟨nb, 0, none⟩ = some (.slice A items.length c) := hb0.out.1.cell 0
    have c1 : W0.cell? ⟨nb, 1, none⟩ = some (.string ⟨#[]⟩) := hb0.out.1.cell 1
    go_wp2_with fail
    exact HP.out true _ HG.out hb0.out.2
  rw [if_neg k2] at HG
  have ne1 : (nx.toArray = #[]) = False := by simp [k2]
  have ne2 : nx.isEmpty = false := by simp [k2]
  clear k2
  by_cases k3 : items.length = most
  · have kJ : ((items.length : Int) != (most : Int)) = false := by simp; omega
    have HBe : Hid (∀ W, Calls Tryz.prog 82 #[.string ⟨(items.getD (most - 1) ([], [])).1.toArray⟩] W (Ret W (.string ⟨(Trie.behindW (items.getD (most - 1) ([], [])).1).toArray⟩))) := Lib.hid (fun W => scan_Behind W _)
    obtain ⟨m, hm⟩ : ∃ m, most = m + 1 := ⟨most - 1, by omega⟩
    have hmi : m < items.length := by omega
    obtain ⟨ad, off, rfl, hbl, hcell⟩ := item_cells HR hmi
    have eg : items.getD (most - 1) ([], []) = items[m] := by rw [hm, Nat.add_sub_cancel, List.getD_eq_getElem?_getD, List.getElem?_eq_getElem hmi]; rfl
    rw [eg] at HG HBe
    have HK : Hid (∀ W, Below w.heap.size w W → W.cell? ⟨ad, off + m * 2, none⟩ = some (.string ⟨items[m].1.toArray⟩)) := Lib.hid (fun W hW => (hcell W hW).1)
    generalize items[m].1 = ky at *
    have em : ((most : Int) - 1) = (m : Int) := by omega
    have hm0 : (0 : Int) ≤ m := by omega
    have hw : IntKind.i64.wrap ((most : Int) - 1) = (m : Int) := by rw [em]; exact IntWalk.i64_in _ (by constructor <;> omega)
    clear em
    have hm1 : (m : Int) < items.length := by omega
    generalize Trie.behindW ky = bk at *
    have k3' := k3
    have HK3 := Lib.hid k3'
    by_cases k4 : e = []
    · subst k4
      rw [if_neg (by simp [k3])] at HG
      clear HR hcell eg k3 k3' hmi hm
      go_enter Tryz.func52, Tryz.ntmps52
      go_upto_region 1 with fail
      obtain ⟨nb, hnb⟩ : ∃ nb, w.heap.size = nb := ⟨_, rfl⟩
      have hb0 : Hid (Blk (w.alloc (.cells #[.slice (some ⟨ad, off, none⟩) items.length c, .string ⟨nx.toArray⟩, NV] 46)) nb 46 #[.slice (some ⟨ad, off, none⟩) items.length c, .string ⟨nx.toArray⟩, NV] ∧ Below w.heap.size w (w.alloc (.cells #[.slice (some ⟨ad, off, none⟩) items.length c, .string ⟨nx.toArray⟩, NV] 46))) := Lib.hid (by subst hnb; exact ⟨Blk.new _ _ _, by go_grown⟩)
      try rw [hnb]
      generalize w.alloc (.cells #[.slice (some ⟨ad, off, none⟩) items.length c, .string ⟨nx.toArray⟩, NV] 46) = W0 at hb0 ⊢
      clear hnb
      have c0 : W0.cell? ⟨nb, 0, none⟩ = some (.slice (some ⟨ad, off, none⟩) items.length c) := hb0.out.1.cell 0
      have c1 : W0.cell? ⟨nb, 1, none⟩ = some (.string ⟨nx.toArray⟩) := hb0.out.1.cell 1
      go_upto_region 7 with fail
      have q1 := HK.out W0 hb0.out.2
      go_region_held3 (fun w' => w'.cell? ⟨nb, 0, none⟩ = some (.slice (some ⟨ad, off, none⟩) items.length c) ∧ w'.cell? ⟨nb, 1, none⟩ = some (.string ⟨nx.toArray⟩) ∧ w'.cell? ⟨ad, off + m * 2, none⟩ = some (.string ⟨ky.toArray⟩)) (first | go_keep | (refine ⟨?_, ?_, ?_⟩ <;> assumption)) ((go_at_call 82; refine (HBe.out _).mono ?_; rintro r w1 ⟨rfl, hb⟩; have B1 : Below W0.heap.size W0 w1 := (by first | exact hb | exact hb.start); have d0 := (B1.cell (p := ⟨nb, 0, none⟩) hb0.out.1.lt).trans c0; have d1 := (B1.cell (p := ⟨nb, 1, none⟩) hb0.out.1.lt).trans c1; have d2 := HK.out w1 (hb0.out.2.nxt B1); clear hb))
      go_wp2_with fail
      exact HP.out _ _ (HG.out.trans (decide_beq nx bk)) (hb0.out.2.nxt B1)
    · have ne3 : (e.toArray = #[]) = False := by simp [k4]
      have ne4 : e.isEmpty = false := by simp [k4]
      cases k5 : Op.bytesLess nx e with
      | false =>
        rw [if_pos (.inr ⟨k4, k5⟩)] at HG
        clear HR hcell eg k4 k3 k3' hmi hm
        go_enter Tryz.func52, Tryz.ntmps52
        go_upto_region 1 with fail
        obtain ⟨nb, hnb⟩ : ∃ nb, w.heap.size = nb := ⟨_, rfl⟩
        have hb0 : Hid (Blk (w.alloc (.cells #[.slice (some ⟨ad, off, none⟩) items.length c, .string ⟨nx.toArray⟩, NV] 46)) nb 46 #[.slice (some ⟨ad, off, none⟩) items.length c, .string ⟨nx.toArray⟩, NV] ∧ Below w.heap.size w (w.alloc (.cells #[.slice (some ⟨ad, off, none⟩) items.length c, .string ⟨nx.toArray⟩, NV] 46))) := Lib.hid (by subst hnb; exact ⟨Blk.new _ _ _, by go_grown⟩)
        try rw [hnb]
        generalize w.alloc (.cells #[.slice (some ⟨ad, off, none⟩) items.length c, .string ⟨nx.toArray⟩, NV] 46) = W0 at hb0 ⊢
        clear hnb
        have c0 : W0.cell? ⟨nb, 0, none⟩ = some (.slice (some ⟨ad, off, none⟩) items.length c) := hb0.out.1.cell 0
        have c1 : W0.cell? ⟨nb, 1, none⟩ = some (.string ⟨nx.toArray⟩) := hb0.out.1.cell 1
        go_wp2_with fail
        exact HP.out false _ HG.out hb0.out.2
      | true =>
        rw [if_neg (by simp [k3, k5])] at HG
        clear HR hcell eg k4 k3 k3' hmi hm
        go_enter Tryz.func52, Tryz.ntmps52
        go_upto_region 1 with fail
        obtain ⟨nb, hnb⟩ : ∃ nb, w.heap.size = nb := ⟨_, rfl⟩
        have hb0 : Hid (Blk (w.alloc (.cells #[.slice (some ⟨ad, off, none⟩) items.length c, .string ⟨nx.toArray⟩, NV] 46)) nb 46 #[.slice (some ⟨ad, off, none⟩) items.length c, .string ⟨nx.toArray⟩, NV] ∧ Below w.heap.size w (w.alloc (.cells #[.slice (some ⟨ad, off, none⟩) items.length c, .string ⟨nx.toArray⟩, NV] 46))) := Lib.hid (by subst hnb; exact ⟨Blk.new _ _ _, by go_grown⟩)
        try rw [hnb]
        generalize w.alloc (.cells #[.slice (some ⟨ad, off, none⟩) items.length c, .string ⟨nx.toArray⟩, NV] 46) = W0 at hb0 ⊢
        clear hnb
        have c0 : W0.cell? ⟨nb, 0, none⟩ = some (.slice (some ⟨ad, off, none⟩) items.length c) := hb0.out.1.cell 0
        have c1 : W0.cell? ⟨nb, 1, none⟩ = some (.string ⟨nx.toArray⟩) := hb0.out.1.cell 1
        go_upto_region 7 with fail
        have q1 := HK.out W0 hb0.out.2
        go_region_held3 (fun w' => w'.cell? ⟨nb, 0, none⟩ = some (.slice (some ⟨ad, off, none⟩) items.length c) ∧ w'.cell? ⟨nb, 1, none⟩ = some (.string ⟨nx.toArray⟩) ∧ w'.cell? ⟨ad, off + m * 2, none⟩ = some (.string ⟨ky.toArray⟩)) (first | go_keep | (refine ⟨?_, ?_, ?_⟩ <;> assumption)) ((go_at_call 82; refine (HBe.out _).mono ?_; rintro r w1 ⟨rfl, hb⟩; have B1 : Below W0.heap.size W0 w1 := (by first | exact hb | exact hb.start); have d0 := (B1.cell (p := ⟨nb, 0, none⟩) hb0.out.1.lt).trans c0; have d1 := (B1.cell (p := ⟨nb, 1, none⟩) hb0.out.1.lt).trans c1; have d2 := HK.out w1 (hb0.out.2.nxt B1); clear hb))
        go_wp2_with fail
        exact HP.out _ _ (HG.out.trans (decide_beq nx bk)) (hb0.out.2.nxt B1)
  · rw [if_pos (.inl k3)] at HG
    have kJ : ((items.length : Int) != (most : Int)) = true := by simp; omega
    clear HR k3
    go_enter Tryz.func52, Tryz.ntmps52
    go_upto_region 1 with fail
    obtain ⟨nb, hnb⟩ : ∃ nb, w.heap.size = nb := ⟨_, rfl⟩
    have hb0 : Hid (Blk (w.alloc (.cells #[.slice A items.length c, .string ⟨nx.toArray⟩, NV] 46)) nb 46 #[.slice A items.length c, .string ⟨nx.toArray⟩, NV] ∧ Below w.heap.size w (w.alloc (.cells #[.slice A items.length c, .string ⟨nx.toArray⟩, NV] 46))) := Lib.hid (by subst hnb; exact ⟨Blk.new _ _ _, by go_grown⟩)
    try rw [hnb]
    generalize w.alloc (.cells #[.slice A items.length c, .string ⟨nx.toArray⟩, NV] 46) = W0 at hb0 ⊢
    clear hnb
    have c0 : W0.cell? ⟨nb, 0, none⟩ = some (.slice A items.length c) := hb0.out.1.cell 0
    have c1 : W0.cell? ⟨nb, 1, none⟩ = some (.string ⟨nx.toArray⟩) := hb0.out.1.cell 1
    go_wp2_with fail
    exact HP.out false _ HG.out hb0.out.2
end Go.Proofs.YtcjafcbekegmlaaGreatDoor

namespace Go.Proofs.YtcjafcbekegmlaaGreatDoor
set_option linter.unusedVariables false
open Go.RowKit Go.Instr
attribute [local go_sem] ba_get ByteArray.mk_append_mk
attribute [local go_sem ↓] Go.wp_at_zero Go.wp_at_succ
set_option maxHeartbeats 1000000 in
theorem items_Equal (A B : Option Addr) (n m c d : Nat) (xs ys : List Trie.KV) (w : World) (ha : Reads w w.heap.size 2 A n (icells xs)) (hb : Reads w w.heap.size 2 B m (icells ys)) (hn : n ≤ 1048576) (hm : m ≤ 1048576) :
    Calls Tryz.prog 56 #[.slice A n c, .slice B m d] w (Ret w (.bool (decide (xs = ys)))) := by
  have hxl : xs.length = n := by have := ha.1; rw [icells_length] at this; omega
  have hyl : ys.length = m := by have := hb.1; rw [icells_length] at this; omega
  have HP : Hid (∀ r w', decide (xs = ys) = r → Below w.heap.size w w' → Ret w (.bool (decide (xs = ys))) (Ending.returned (.bool r)) w') := Lib.hid (fun r W' a1 a2 => ⟨by rw [a1], a2⟩)
  generalize Ret w (.bool (decide (xs = ys))) = P at HP ⊢
  obtain rfl := hxl
  obtain rfl := hyl
  by_cases hnm : xs.length = ys.length
  · have hq : ((xs.length : Int) != (ys.length : Int)) = false := by simp; omega
    have HA := Lib.hid ha
    have HB := Lib.hid hb
    have HE := Lib.hid hnm
    clear ha hb hnm
    go_enter Tryz.func56, Tryz.ntmps56
    go_wp2_with fail
    refine wp_loop_ghost_k (fun k a wr => ∀ Φ : Act → Prop, (∀ (s2 s3 s4 s5 s6 s7 s8 s9 s10 s11 s14 s15 s16 s17 s18 s19 s20 s21 s22 s23 s24 s25 : Value) (i : Nat), (i + k = xs.length ∧ xs.take i = ys.take i ∧ Below w.heap.size w wr) → Φ { tmps := #[.slice A xs.length c, .slice B ys.length d, s2, s3, s4, s5, s6, s7, s8, s9, s10, s11, .int .i64 xs.length, .int .i64 (i : Int), s14, s15, s16, s17, s18, s19, s20, s21, s22, s23, s24, s25], defers := [] }) → Φ a) (xs.length) ?_ ?_
    · refine fun Φ hΦ => hΦ _ _ _ _ _ _ _ _ _ _ _ _ _ _ _ _ _ _ _ _ _ _ (0) ?_
      exact ⟨by omega, by simp, Below.refl _ _⟩
    · intro k1 a1 wr1 hI1 J1 K1 hJ1 hK1
      refine hI1 (fun a => Code.wp _ _ _ a _) ?_
      clear hI1 a1
      intro s0 s1 s2 s3 s4 s5 s6 s7 s8 s9 s10 s11 s12 s13 s14 s15 s16 s17 s18 s19 s20 s21 i hrel
      show Code.wp _ _ _ _ _
      obtain ⟨h1, h2, hw⟩ := hrel
      have HI := Lib.hid (And.intro h1 (And.intro h2 hw))
      clear h1 h2 hw
      by_cases hi : i < xs.length
      · have hi2 : i < ys.length := by have := HE.out; omega
        obtain ⟨b1, o1, rfl, hl1, hc1⟩ := item_cells HA.out hi
        obtain ⟨b2, o2, rfl, hl2, hc2⟩ := item_cells HB.out hi2
        obtain ⟨g1, g2⟩ := hc1 _ HI.out.2.2
        obtain ⟨g3, g4⟩ := hc2 _ HI.out.2.2
        have EQ := fun w => it_run w xs[i] ys[i]
        have hi0 : (0 : Int) ≤ i := by omega
        have hi1 : (i : Int) < xs.length := by omega
        have hi3 : (i : Int) < ys.length := by omega
        have HT := Lib.hid (take_eq_succ' (xs := xs) (ys := ys) hi hi2 HI.out.2.1)
        by_cases he : xs[i] = ys[i]
        · have HT2 := Lib.hid (HT.out.2 he)
          have e2 : (xs[i] == ys[i]) = true := by simp [he]
          rw [e2] at EQ
          clear hc1 hc2 he e2 HT
          generalize xs[i] = x at *
          generalize ys[i] = y at *
          obtain ⟨x1, x2⟩ := x
          obtain ⟨y1, y2⟩ := y
          simp only at g1 g2 g3 g4 EQ
          go_wp2_with fail
          go_quiet (fail)
          go_wp2_with fail
          refine Handed.intro (xs.length - (i + 1)) ?_ (hJ1 _ _ _ (fun Φ hΦ => hΦ _ _ _ _ _ _ _ _ _ _ _ _ _ _ _ _ _ _ _ _ _ _ (i + 1) ?_))
          · have := HI.out.1; omega
          · exact ⟨by have := HI.out.1; omega, HT2.out, below_drewN HI.out.2.2 _⟩
        · have HF : Hid (decide (xs = ys) = false) := Lib.hid (decide_eq_false (fun e => he (by subst e; rfl)))
          have e2 : (xs[i] == ys[i]) = false := by simp [he]
          rw [e2] at EQ
          clear hc1 hc2 he e2 HT
          generalize xs[i] = x at *
          generalize ys[i] = y at *
          obtain ⟨x1, x2⟩ := x
          obtain ⟨y1, y2⟩ := y
          simp only at g1 g2 g3 g4 EQ
          go_wp2_with fail
          go_quiet (fail)
          go_wp2_with fail
          exact HP.out false _ HF.out (below_drewN HI.out.2.2 _)
      · have hi1 : ((i : Int) < xs.length) = False := by simp; omega
        have HF : Hid (decide (xs = ys) = true) := Lib.hid (decide_eq_true (by
          have h := HI.out.2.1
          rwa [List.take_of_length_le (by omega), List.take_of_length_le (by have := HE.out; omega)] at h))
        go_wp2_with fail
        exact HP.out true _ HF.out HI.out.2.2
  · have HF : Hid (decide (xs = ys) = false) := Lib.hid (decide_eq_false (fun e => hnm (by rw [e])))
    have hq : ((xs.length : Int) != (ys.length : Int)) = true := by simp; omega
    clear ha hb hnm
    go_enter Tryz.func56, Tryz.ntmps56
    go_wp2_with fail
    exact HP.out false _ HF.out (Below.refl _ _)
theorem tx_size (w : World) : (sizeOf 9).run Tryz.prog w = .ok 1 w := by
  go_simp
  try rfl
theorem tx_elem : Program.elem Tryz.prog 23 = 9 := by kernel_rfl
theorem tx_under : Tryz.prog.underlying 23 = some (.slice (Tryz.prog.elem 23)) := by rw [tx_elem]; exact Tryz.underlying23
theorem tx_cut_from (A : Option Addr) (l : List (List UInt8)) (n c i : Nat) (hn : l.length = n) (hi : i ≤ n) (hc : n ≤ c) :
    ∃ A1 c1, (∀ w, (Instr.sliceAt 23 (.slice A n c) (some (.int .i64 (i : Int))) none none).run Tryz.prog w = .ok (.slice A1 (n - i) c1) w) ∧ n - i ≤ c1 ∧ ∀ w B, Reads w B 1 A n (strv l) → Reads w B 1 A1 (n - i) (strv (l.drop i)) := by
  refine ⟨if c = i then A else A.map (·.add (i * 1)), c - i, fun w => ?_, by omega, fun w B hr => ?_⟩
  · rw [run_sliceAt_slice _ _ _ _ _ _ tx_under, run_slice_l _ _ _ _ _ tx_under _ _ (by omega) (by omega)]
    rw [tx_elem, tx_size w]
    rfl
  · have := hr.cut hi hc
    unfold strv at this ⊢
    rw [Nat.mul_one, ← List.map_drop] at this
    rw [Nat.mul_one]
    exact this
def SpI (w0 : World) (bg bl : Nat) (f e : List UInt8) (st : Trie.Gst) (W : World) : Prop :=
  ∃ A n c B m d, Blk W bg 91 #[.string ⟨f.toArray⟩, .string ⟨e.toArray⟩, .string ⟨(Nib.of f).toArray⟩, .string ⟨(Nib.of e).toArray⟩, .slice A n c] ∧ n = st.1.length ∧ W.ownsRow w0.heap.size 76 2 (.slice A n c) n (icells st.1) ∧
    Blk W bl 23 #[.slice B m d] ∧ m = st.2.length ∧ m ≤ d ∧ Reads w0 w0.heap.size 1 B m (strv st.2) ∧ Below w0.heap.size w0 W ∧ w0.heap.size ≤ bg ∧ w0.heap.size ≤ bl
theorem SpI.next {w0 : World} {bg bl : Nat} {f e : List UInt8} {st : Trie.Gst} {W W' : World} (h : SpI w0 bg bl f e st W) (hb : Below W.heap.size W W') : SpI w0 bg bl f e st W' := by
  obtain ⟨A, n, c, B, m, d, h1, h2, h3, h4, h5, h6, h7, h8, h9, h10⟩ := h
  exact ⟨A, n, c, B, m, d, h1.below hb h1.lt, h2, own_below h3 hb, h4.below hb h4.lt, h5, h6, h7, h8.nxt hb, h9, h10⟩
def Kept (W W' : World) : Prop := ∀ g t cs, t ≠ 91 → t ≠ 23 → t ≠ 76 → Blk W g t cs → Blk W' g t cs
theorem Kept.low {W W' : World} (hb : Below W.heap.size W W') : Kept W W' := fun g t cs _ _ _ h => h.below hb h.lt
theorem Kept.trans {A B C : World} (h : Kept A B) (k : Kept B C) : Kept A C := fun g t cs a b c x => k g t cs a b c (h g t cs a b c x)
theorem SpI.low {w0 : World} {bg bl : Nat} {f e : List UInt8} {st : Trie.Gst} {W : World} (h : SpI w0 bg bl f e st W) : Below w0.heap.size w0 W := by
  obtain ⟨A, n, c, B, m, d, h1, h2, h3, h4, h5, h6, h7, h8, h9, h10⟩ := h
  exact h8
theorem SpI.setl {w0 : World} {bg bl : Nat} {f e : List UInt8} {l : List Trie.KV} {ll left : List (List UInt8)} {W : World} (h : SpI w0 bg bl f e (l, ll) W) {B : Option Addr} {d : Nat} (hd : left.length ≤ d) (hr : Reads w0 w0.heap.size 1 B left.length (strv left)) :
    SpI w0 bg bl f e (l, left) (W.setCell ⟨bl, 0, none⟩ (.slice B left.length d)) := by
  obtain ⟨A, n, c, B0, m, d0, h1, h2, h3, h4, h5, h6, h7, h8, h9, h10⟩ := h
  exact ⟨A, n, c, B, left.length, d, h1.far (p := ⟨bl, 0, none⟩) (h1.ne_ h4 (by decide)) _, h2, h3.kept (only_setCell (World.grownBy.refl W (some bl)) (.inl rfl) _) (.inr (own_blk_ne h3 h4 (by decide))),
    h4.set_ 0 _, rfl, hd, hr, h8.setCell (p := ⟨bl, 0, none⟩) h10 _, h9, h10⟩
theorem SpI.keptl {w0 : World} {bg bl : Nat} {f e : List UInt8} {st : Trie.Gst} {W : World} (h : SpI w0 bg bl f e st W) (v : Value) : Kept W (W.setCell ⟨bl, 0, none⟩ v) := by
  obtain ⟨A, n, c, B0, m, d0, h1, h2, h3, h4, h5, h6, h7, h8, h9, h10⟩ := h
  exact fun g t cs _ n2 _ k => k.far (p := ⟨bl, 0, none⟩) (k.ne_ h4 n2) _
theorem kept_push {w0 : World} {bg : Nat} {xs : List Value} {cs0 : Array Value} {W w2 : World} {A : Option Addr} {n c : Nat} (h1 : Blk W bg 91 cs0) (h3 : W.ownsRow w0.heap.size 76 2 (.slice A n c) n xs) (hg : W.grownBy w2 (Value.slice A n c).ownBlock) (v : Value) : Kept W (w2.setCell ⟨bg, 4, none⟩ v)   := fun g t cs n1 _ n3 k => by
  have hbk := h1.grown hg (fun e => own_blk_ne h3 h1 (by decide) e.symm)
  have hk2 := k.grown hg (fun e => own_blk_ne h3 k n3.symm e.symm)
  exact hk2.far (p := ⟨bg, 4, none⟩) (hk2.ne_ hbk n1) _
theorem SpI.push {w0 : World} {bg bl : Nat} {f e : List UInt8} {st : Trie.Gst} {x : Trie.KV} {W w2 : World} {A A2 B : Option Addr} {n c c2 m d : Nat}
    (h1 : Blk W bg 91 #[.string ⟨f.toArray⟩, .string ⟨e.toArray⟩, .string ⟨(Nib.of f).toArray⟩, .string ⟨(Nib.of e).toArray⟩, .slice A n c]) (h2 : n = st.1.length) (h3 : W.ownsRow w0.heap.size 76 2 (.slice A n c) n (icells st.1))
    (h4 : Blk W bl 23 #[.slice B m d]) (h5 : m = st.2.length) (h6 : m ≤ d) (h7 : Reads w0 w0.heap.size 1 B m (strv st.2)) (h9 : w0.heap.size ≤ bg) (h10 : w0.heap.size ≤ bl)
    (hown : w2.ownsRow w0.heap.size 76 2 (.slice A2 (n + 1) c2) (n + 1) (icells st.1 ++ [.string ⟨x.1.toArray⟩, .string ⟨x.2.toArray⟩])) (hb : Below w0.heap.size w0 w2) (hg : W.grownBy w2 (Value.slice A n c).ownBlock) :
    SpI w0 bg bl f e (st.1 ++ [x], st.2) (w2.setCell ⟨bg, 4, none⟩ (.slice A2 (n + 1) c2)) := by
  have hbk := h1.grown hg (fun e => own_blk_ne h3 h1 (by decide) e.symm)
  have hbl := h4.grown hg (fun e => own_blk_ne h3 h4 (by decide) e.symm)
  refine ⟨A2, n + 1, c2, B, m, d, hbk.set_ 4 _, by simp only [List.length_append, List.length_cons, List.length_nil]; omega, ?_, hbl.far (p := ⟨bg, 4, none⟩) (hbl.ne_ hbk (by decide)) _, h5, h6, h7, hb.setCell (p := ⟨bg, 4, none⟩) h9 _, h9, h10⟩
  rw [icells_snoc]
  exact hown.kept (only_setCell (World.grownBy.refl w2 (some bg)) (.inl rfl) _) (.inr (own_blk_ne hown hbk (by decide)))
theorem span_take_nil (w0 W : World) (bg bl : Nat) (f e : List UInt8) (l : List Trie.KV) (hI : SpI w0 bg bl f e (l, []) W) :
    Calls Tryz.prog 54 #[.pointer (some ⟨bl, 0, none⟩)] W fun r W' => r = .returned (.tuple #[.string ⟨#[]⟩, .bool false]) ∧ W = W' := by
  obtain ⟨A, n, c, B, m, d, h1, h2, h3, h4, h5, h6, h7, h8, h9, h10⟩ := hI
  simp only [List.length_nil] at h5
  subst h5
  have c0 : W.cell? ⟨bl, 0, none⟩ = some (.slice B 0 d) := h4.cell 0
  clear h1 h2 h3 h4 h6 h7 h8 h9 h10
  go_enter Tryz.func54, Tryz.ntmps54
  go_wp2_with fail
  go_ret2
  exact ⟨rfl, rfl⟩
set_option maxHeartbeats 1000000 in
theorem span_take_cons (w0 W : World) (bg bl : Nat) (f e : List UInt8) (l : List Trie.KV) (x : List UInt8) (left : List (List UInt8)) (hll : left.length ≤ 100000) (hI : SpI w0 bg bl f e (l, x :: left) W) :
    Calls Tryz.prog 54 #[.pointer (some ⟨bl, 0, none⟩)] W fun r W' => r = .returned (.tuple #[.string ⟨x.toArray⟩, .bool true]) ∧ SpI w0 bg bl f e (l, left) W' ∧ Kept W W' := by
  have HSp := Lib.hid hI
  obtain ⟨A, n, c, B, m, d, h1, h2, h3, h4, h5, h6, h7, h8, h9, h10⟩ := hI
  simp only [List.length_cons] at h5
  subst h5
  have c0 : W.cell? ⟨bl, 0, none⟩ = some (.slice B (left.length + 1) d) := h4.cell 0
  have fr := h4.frozen 0
  obtain ⟨A1, c1, SL, hc1, RD⟩ := tx_cut_from B (x :: left) (left.length + 1) d 1 (by simp) (by omega) h6
  rw [Nat.add_sub_cancel] at SL hc1 RD
  have SL1 : ∀ w, (Instr.sliceAt 23 (.slice B (left.length + 1) d) (some (.int .i64 1)) none none).run Tryz.prog w = .ok (.slice A1 left.length c1) w := SL
  clear SL
  have HRd := Lib.hid (RD w0 _ h7)
  obtain ⟨ad, off, rfl, hbl, hcell⟩ := h7.form (by omega) (by omega)
  have q0 := hcell 0 (by simp [strv])
  have q1 : W.cell? ⟨ad, off, none⟩ = some (.string ⟨x.toArray⟩) := (h8.cell (p := ⟨ad, off, none⟩) hbl).trans (by simpa [strv] using q0)
  have hlz : ((left.length : Int) + 1 == 0) = false := by simp; omega
  have hl0 : (0 : Int) < (left.length : Int) + 1 := by omega
  have HQ : Hid (SpI w0 bg bl f e (l, left) (W.setCell ⟨bl, 0, none⟩ (.slice A1 left.length c1)) ∧ Kept W (W.setCell ⟨bl, 0, none⟩ (.slice A1 left.length c1))) := Lib.hid ⟨HSp.out.setl hc1 HRd.out, HSp.out.keptl _⟩
  have HW := Lib.hid (And.intro h1 h4)
  clear h1 h2 h3 h4 h6 h7 h8 h9 h10 RD hcell q0 hll
  go_enter Tryz.func54, Tryz.ntmps54
  go_wp2_with fail
  go_ret2
  exact ⟨rfl, HQ.out⟩
set_option maxRecDepth 100000 in
set_option maxHeartbeats 2000000 in
theorem span_may (W : World) (bg : Nat) (f e : List UInt8) (V : Value) (hf : f.length ≤ 1048576) (he : e.length ≤ 1048576) (h1 : Blk W bg 91 #[.string ⟨f.toArray⟩, .string ⟨e.toArray⟩, .string ⟨(Nib.of f).toArray⟩, .string ⟨(Nib.of e).toArray⟩, V]) (pl : List UInt8) (hl : pl.length ≤ 4194304) :
    Calls Tryz.prog 89 #[.pointer (some ⟨bg, 0, none⟩), .string ⟨pl.toArray⟩] W (Ret W (.bool (coverW (Nib.of f) (Nib.of e) e pl))) := by
  have HP : Hid (∀ r W', coverW (Nib.of f) (Nib.of e) e pl = r → Below W.heap.size W W' → Ret W (.bool (coverW (Nib.of f) (Nib.of e) e pl)) (Ending.returned (.bool r)) W') := Lib.hid (fun r W' a1 a2 => ⟨by rw [a1], a2⟩)
  have HC : Hid (coverW (Nib.of f) (Nib.of e) e pl = (decide (0 ≤ Nib.side pl (Nib.of f)) && (e.isEmpty || decide (Nib.side pl (Nib.of e) ≤ 0)))) := Lib.hid rfl
  generalize Ret W (.bool (coverW (Nib.of f) (Nib.of e) e pl)) = P at HP ⊢
  generalize coverW (Nib.of f) (Nib.of e) e pl = cw at *
  have HB := Lib.hid h1
  have HS1 : Hid (Calls Tryz.prog 85 #[.string ⟨pl.toArray⟩, .string ⟨(Nib.of f).toArray⟩] W fun e w' => e = .returned (.int .i64 (Nib.side pl (Nib.of f))) ∧ Below W.heap.size W w') := Lib.hid (nib_Side pl (Nib.of f) W (by omega) (by rw [Nib.of_length]; omega))
  have HS2 : Hid (∀ W, Calls Tryz.prog 85 #[.string ⟨pl.toArray⟩, .string ⟨(Nib.of e).toArray⟩] W fun r w' => r = .returned (.int .i64 (Nib.side pl (Nib.of e))) ∧ Below W.heap.size W w') := Lib.hid (fun W => nib_Side pl (Nib.of e) W (by omega) (by rw [Nib.of_length]; omega))
  have c2 : W.cell? ⟨bg, 2, none⟩ = some (.string ⟨(Nib.of f).toArray⟩) := h1.cell 2
  have HD1 : Hid (∀ W', Below W.heap.size W W' → W'.cell? ⟨bg, 1, none⟩ = some (.string ⟨e.toArray⟩)) := Lib.hid (fun W' hb => (HB.out.below hb HB.out.lt).cell 1)
  have HD3 : Hid (∀ W', Below W.heap.size W W' → W'.cell? ⟨bg, 3, none⟩ = some (.string ⟨(Nib.of e).toArray⟩)) := Lib.hid (fun W' hb => (HB.out.below hb HB.out.lt).cell 3)
  clear h1 hf he hl
  generalize Nib.of f = low at *
  generalize Nib.of e = high at *
  by_cases s1 : 0 ≤ Nib.side pl low
  · by_cases he : e = []
    · have HR : Hid (cw = true) := Lib.hid (by rw [HC.out]; simp [s1, he])
      subst he
      clear HC HS2 HD3
      generalize Nib.side pl low = sl at *
      go_enter Tryz.func89, Tryz.ntmps89
      go_wp2_with (go_at_call 85; refine HS1.out.mono ?_; rintro e w1 ⟨rfl, hb1⟩; have d1 := HD1.out _ hb1)
      exact HP.out _ _ HR.out hb1
    · have ne1 : (e.toArray = #[]) = False := by simp [he]
      have ne2 : e.isEmpty = false := by simp [he]
      by_cases s2 : Nib.side pl high ≤ 0
      · have HR : Hid (cw = true) := Lib.hid (by rw [HC.out]; simp [s1, s2])
        clear HC he
        generalize Nib.side pl low = sl at *
        generalize Nib.side pl high = sh at *
        go_enter Tryz.func89, Tryz.ntmps89
        have tok1 : True := trivial
        go_wp2_with (first | (go_at_call 85; have _t := tok1; refine HS1.out.mono ?_; rintro e w1 ⟨rfl, hb1⟩; have d1 := HD1.out _ hb1; have d3 := HD3.out _ hb1; clear _t tok1) | (go_at_call 85; refine (HS2.out _).mono ?_; rintro e w2 ⟨rfl, hb2⟩))
        exact HP.out _ _ HR.out (hb1.nxt hb2)
      · have HR : Hid (cw = false) := Lib.hid (by rw [HC.out]; simp [s2, ne2])
        have s2' : (Nib.side pl high ≤ 0) = False := by simp [s2]
        clear HC he s2
        generalize Nib.side pl low = sl at *
        generalize Nib.side pl high = sh at *
        go_enter Tryz.func89, Tryz.ntmps89
        have tok1 : True := trivial
        go_wp2_with (first | (go_at_call 85; have _t := tok1; refine HS1.out.mono ?_; rintro e w1 ⟨rfl, hb1⟩; have d1 := HD1.out _ hb1; have d3 := HD3.out _ hb1; clear _t tok1) | (go_at_call 85; refine (HS2.out _).mono ?_; rintro e w2 ⟨rfl, hb2⟩))
        exact HP.out _ _ HR.out (hb1.nxt hb2)
  · have HR : Hid (cw = false) := Lib.hid (by rw [HC.out]; simp [s1])
    have s1' : (0 ≤ Nib.side pl low) = False := by simp [s1]
    clear HC s1 HS2 HD3 HD1
    generalize Nib.side pl low = sl at *
    go_enter Tryz.func89, Tryz.ntmps89
    go_wp2_with (go_at_call 85; refine HS1.out.mono ?_; rintro e w1 ⟨rfl, hb1⟩)
    exact HP.out _ _ HR.out hb1
theorem SpI.ends {w0 : World} {bg bl : Nat} {f e : List UInt8} {st : Trie.Gst} {W : World} (h : SpI w0 bg bl f e st W) : W.cell? ⟨bg, 0, none⟩ = some (.string ⟨f.toArray⟩) ∧ W.cell? ⟨bg, 1, none⟩ = some (.string ⟨e.toArray⟩) := by
  obtain ⟨A, n, c, B, m, d, h1, h2, h3, h4, h5, h6, h7, h8, h9, h10⟩ := h
  exact ⟨h1.cell 0, h1.cell 1⟩
def ItemEnd (w0 : World) (bg bl : Nat) (f e : List UInt8) (W : World) (r : Bool) (st : Trie.Gst) (q : Ending) (W' : World) : Prop := q = .returned (.bool r) ∧ SpI w0 bg bl f e st W' ∧ Kept W W'
set_option maxRecDepth 100000 in
set_option maxHeartbeats 2000000 in
theorem span_item (w0 W : World) (bg bl : Nat) (f e : List UInt8) (st : Trie.Gst) (hI : SpI w0 bg bl f e st W) (hn : st.1.length ≤ 100000) (path value : List UInt8) (hp : path.length ≤ 1048576) :
    Calls Tryz.prog 92 #[.pointer (some ⟨bg, 0, none⟩), .string ⟨path.toArray⟩, .string ⟨value.toArray⟩] W (ItemEnd w0 bg bl f e W (Trie.itemGa f e path value st.1).1 ((Trie.itemGa f e path value st.1).2, st.2)) := by
  have HP : Hid (∀ b l W', Trie.itemGa f e path value st.1 = (b, l) → SpI w0 bg bl f e (l, st.2) W' → Kept W W' → ItemEnd w0 bg bl f e W (Trie.itemGa f e path value st.1).1 ((Trie.itemGa f e path value st.1).2, st.2) (.returned (.bool b)) W') := Lib.hid (fun b l W' h1 h2 h3 => by rw [h1]; exact ⟨rfl, h2, h3⟩)
  have HG : Hid (Trie.itemGa f e path value st.1 = if (Nib.key path).2 ≠ 0 ∨ (Nib.key path).1 = [] ∨ 16 < path.length then (false, st.1) else (true, if Trie.inK f e (Nib.key path).1 = true then st.1 ++ [((Nib.key path).1, value)] else st.1)) := Lib.hid rfl
  generalize ItemEnd w0 bg bl f e W (Trie.itemGa f e path value st.1).1 ((Trie.itemGa f e path value st.1).2, st.2) = P at HP ⊢
  generalize Trie.itemGa f e path value st.1 = G at *
  have HK := Lib.hid (nib_Key path W hp)
  have HI := Lib.hid hI
  clear hI
  generalize hkk : Nib.key path = kk at *
  clear hkk
  obtain ⟨key, cd⟩ := kk
  simp only at HG HK
  have HN := Lib.hid hn
  clear hn
  by_cases k1 : cd = 0
  · subst k1
    by_cases k2 : key = []
    · subst k2
      rw [if_pos (.inr (.inl rfl))] at HG
      clear hp
      go_enter Tryz.func92, Tryz.ntmps92
      go_wp2_with (go_at_call 127; refine HK.out.mono ?_; rintro r w1 ⟨rfl, hb⟩; have HI1 := Lib.hid (HI.out.next hb); have HKp := Lib.hid (Kept.low hb); clear hb; obtain ⟨c0, c1⟩ := SpI.ends HI1.out)
      exact HP.out false _ _ HG.out HI1.out HKp.out
    have ne1 : (key.toArray = #[]) = False := by simp [k2]
    have ne2 : key.isEmpty = false := by simp [k2]
    by_cases k3 : 16 < path.length
    · rw [if_pos (.inr (.inr k3))] at HG
      have hI : (16 : Int) < path.length := by omega
      clear k2 k3 hp
      go_enter Tryz.func92, Tryz.ntmps92
      go_wp2_with (go_at_call 127; refine HK.out.mono ?_; rintro r w1 ⟨rfl, hb⟩; have HI1 := Lib.hid (HI.out.next hb); have HKp := Lib.hid (Kept.low hb); clear hb; obtain ⟨c0, c1⟩ := SpI.ends HI1.out)
      exact HP.out false _ _ HG.out HI1.out HKp.out
    rw [if_neg (by simp [k2, k3])] at HG
    have hI : ((16 : Int) < path.length) = False := by simp; omega
    clear k2 k3 hp
    cases k4 : Op.bytesLess key f with
    | true =>
      rw [if_neg (by simp [Trie.inK, k4])] at HG
      go_enter Tryz.func92, Tryz.ntmps92
      go_wp2_with (go_at_call 127; refine HK.out.mono ?_; rintro r w1 ⟨rfl, hb⟩; have HI1 := Lib.hid (HI.out.next hb); have HKp := Lib.hid (Kept.low hb); clear hb; obtain ⟨c0, c1⟩ := SpI.ends HI1.out)
      exact HP.out true _ _ HG.out HI1.out HKp.out
    | false =>
      by_cases k5 : e = []
      · subst k5
        rw [if_pos (by simp [Trie.inK, k4])] at HG
        go_enter Tryz.func92, Tryz.ntmps92
        go_upto_region 5 with (go_at_call 127; refine HK.out.mono ?_; rintro r w1 ⟨rfl, hb⟩; have HI1 := Lib.hid (HI.out.next hb); have HKp := Lib.hid (Kept.low hb); clear hb; obtain ⟨c0, c1⟩ := SpI.ends HI1.out)
        obtain ⟨A, n, c, B, m, d, h1, h2, h3, h4, h5, h6, h7, h8, h9, h10⟩ := HI1.out
        have HH := Lib.hid (And.intro h1 (And.intro h2 (And.intro h3 (And.intro h4 (And.intro h5 (And.intro h6 (And.intro h7 (And.intro h9 h10))))))))
        have HB8 := Lib.hid h8
        have c4 : w1.cell? ⟨bg, 4, none⟩ = some (.slice A n c) := h1.cell 4
        have hn1 : n ≤ 100000 := by rw [h2]; exact HN.out
        clear h1 h2 h4 h5 h6 h7 h9 h10 c0 c1
        go_wp2_with (at_builtin; refine wpList_append_new w1 76 [.string ⟨key.toArray⟩, .string ⟨value.toArray⟩] rfl _ _ 39 rfl w0.heap.size 2 32 _ info_item Tryz.underlying39 rfl (by decide) (.slice A n c) n _ rfl h3 1 1 rfl rfl (by simp [Value.oneCell']) (by simp only [maxLen]; omega) (by omega) w0.heap.size w0 h8 (Nat.le_refl _) h8.size ?_; intro v2 w2 hown2 hb2 hgr2 _ _; obtain ⟨A2, cc2, rfl, _, _, _⟩ := own_form hown2; have hbk2 := HH.out.1.grown hgr2 (fun e => own_blk_ne HH.out.2.2.1 HH.out.1 (by decide) e.symm); have co2 := hbk2.cell 4; have fo2 := hbk2.frozen 4; have O2 := Lib.hid (And.intro (SpI.push (x := (key, value)) HH.out.1 HH.out.2.1 HH.out.2.2.1 HH.out.2.2.2.1 HH.out.2.2.2.2.1 HH.out.2.2.2.2.2.1 HH.out.2.2.2.2.2.2.1 HH.out.2.2.2.2.2.2.2.1 HH.out.2.2.2.2.2.2.2.2 hown2 hb2 hgr2) (kept_push HH.out.1 HH.out.2.2.1 hgr2 (.slice A2 (n + 1) cc2))); clear hown2 hb2 hgr2 hbk2)
        exact HP.out true _ _ HG.out O2.out.1 (HKp.out.trans O2.out.2)
      have ne3 : (e.toArray = #[]) = False := by simp [k5]
      have ne4 : e.isEmpty = false := by simp [k5]
      cases k6 : Op.bytesLess key e with
      | true =>
        rw [if_pos (by simp [Trie.inK, k4, k6])] at HG
        clear k5
        go_enter Tryz.func92, Tryz.ntmps92
        go_upto_region 5 with (go_at_call 127; refine HK.out.mono ?_; rintro r w1 ⟨rfl, hb⟩; have HI1 := Lib.hid (HI.out.next hb); have HKp := Lib.hid (Kept.low hb); clear hb; obtain ⟨c0, c1⟩ := SpI.ends HI1.out)
        obtain ⟨A, n, c, B, m, d, h1, h2, h3, h4, h5, h6, h7, h8, h9, h10⟩ := HI1.out
        have HH := Lib.hid (And.intro h1 (And.intro h2 (And.intro h3 (And.intro h4 (And.intro h5 (And.intro h6 (And.intro h7 (And.intro h9 h10))))))))
        have HB8 := Lib.hid h8
        have c4 : w1.cell? ⟨bg, 4, none⟩ = some (.slice A n c) := h1.cell 4
        have hn1 : n ≤ 100000 := by rw [h2]; exact HN.out
        clear h1 h2 h4 h5 h6 h7 h9 h10 c0 c1
        go_wp2_with (at_builtin; refine wpList_append_new w1 76 [.string ⟨key.toArray⟩, .string ⟨value.toArray⟩] rfl _ _ 39 rfl w0.heap.size 2 32 _ info_item Tryz.underlying39 rfl (by decide) (.slice A n c) n _ rfl h3 1 1 rfl rfl (by simp [Value.oneCell']) (by simp only [maxLen]; omega) (by omega) w0.heap.size w0 h8 (Nat.le_refl _) h8.size ?_; intro v2 w2 hown2 hb2 hgr2 _ _; obtain ⟨A2, cc2, rfl, _, _, _⟩ := own_form hown2; have hbk2 := HH.out.1.grown hgr2 (fun e => own_blk_ne HH.out.2.2.1 HH.out.1 (by decide) e.symm); have co2 := hbk2.cell 4; have fo2 := hbk2.frozen 4; have O2 := Lib.hid (And.intro (SpI.push (x := (key, value)) HH.out.1 HH.out.2.1 HH.out.2.2.1 HH.out.2.2.2.1 HH.out.2.2.2.2.1 HH.out.2.2.2.2.2.1 HH.out.2.2.2.2.2.2.1 HH.out.2.2.2.2.2.2.2.1 HH.out.2.2.2.2.2.2.2.2 hown2 hb2 hgr2) (kept_push HH.out.1 HH.out.2.2.1 hgr2 (.slice A2 (n + 1) cc2))); clear hown2 hb2 hgr2 hbk2)
        exact HP.out true _ _ HG.out O2.out.1 (HKp.out.trans O2.out.2)
      | false =>
        rw [if_neg (by simp [Trie.inK, k4, k6, k5])] at HG
        clear k5
        go_enter Tryz.func92, Tryz.ntmps92
        go_wp2_with (go_at_call 127; refine HK.out.mono ?_; rintro r w1 ⟨rfl, hb⟩; have HI1 := Lib.hid (HI.out.next hb); have HKp := Lib.hid (Kept.low hb); clear hb; obtain ⟨c0, c1⟩ := SpI.ends HI1.out)
        exact HP.out true _ _ HG.out HI1.out HKp.out
  · rw [if_pos (.inl k1)] at HG
    have hI : ((cd : Int) != 0) = true := by simp; exact k1
    clear k1 hp
    go_enter Tryz.func92, Tryz.ntmps92
    go_wp2_with (go_at_call 127; refine HK.out.mono ?_; rintro r w1 ⟨rfl, hb⟩; have HI1 := Lib.hid (HI.out.next hb); have HKp := Lib.hid (Kept.low hb); clear hb; obtain ⟨c0, c1⟩ := SpI.ends HI1.out)
    exact HP.out false _ _ HG.out HI1.out HKp.out
end Go.Proofs.YtcjafcbekegmlaaGreatDoor
