import Derived.Test.YtcjafcbekegmlaaGreatDoorJ32
import Derived.Test.YtcjafcbekegmlaaGreatDoorJ27
import Derived.Test.YtcjafcbekegmlaaGreatDoorJ15
import Derived.Test.YtcjafcbekegmlaaGreatDoorJ08
import Derived.Test.YtcjafcbekegmlaaGreatDoorJ21
import Derived.Test.YtcjafcbekegmlaaGreatDoorJ25
import Derived.Test.YtcjafcbekegmlaaGreatDoorJ13
import Derived.Test.YtcjafcbekegmlaaGreatDoorJ26
set_option linter.unusedSimpArgs false
set_option linter.unusedVariables false
namespace Go.Proofs.YtcjafcbekegmlaaGreatDoor
set_option linter.unusedVariables false
open Go.RowKit Go.Instr
set_option maxHeartbeats 1000000 in
theorem book_SpoilItems2 (w : World) (B : Nat) (A : Option Addr) (n c : Nat) (xs : List Value) (own : w.ownsRow B 76 2 (.slice A n c) n xs) (hB : B ≤ w.heap.size) (hn : n ≤ 1000000) :
    Calls Tryz.prog 24 #[.slice A n c] w fun e w' => e = .returned (.tuple #[]) ∧ w.grownBy w' (Value.slice A n c).ownBlock := by
  have HP : Hid (∀ w', w.grownBy w' (Value.slice A n c).ownBlock → (fun e w' => e = Ending.returned (.tuple #[]) ∧ w.grownBy w' (Value.slice A n c).ownBlock) (.returned (.tuple #[])) w') := Lib.hid (fun w' h => ⟨rfl, h⟩)
  generalize (fun e w' => e = Ending.returned (.tuple #[]) ∧ w.grownBy w' (Value.slice A n c).ownBlock) = P at HP ⊢
  have HO := Lib.hid own
  clear own
  go_enter Tryz.func24, Tryz.ntmps24
  go_wp2
  refine wp_loop_ghost_k (fun k a wr => ∀ Φ : Act → Prop, (∀ (s1 s3 s4 s5 s6 s7 s8 s9 s10 s11 s12 : Value) (i : Nat) (ys : List Value), (i + k = n ∧ wr.ownsRow B 76 2 (.slice A n c) n ys ∧ w.grownBy wr (Value.slice A n c).ownBlock) → Φ { tmps := #[.slice A n c, s1, .int .i64 (i : Int), s3, s4, s5, s6, s7, s8, s9, s10, s11, s12], defers := [] }) → Φ a) (n) ?_ ?_
  · refine fun Φ hΦ => hΦ _ _ _ _ _ _ _ _ _ _ _ (0) (xs) ?_
    exact ⟨by omega, HO.out, World.grownBy.refl _ _⟩
  · intro k1 a1 wr1 hI1 J1 K1 hJ1 hK1
    refine hI1 (fun a => Code.wp _ _ _ a _) ?_
    clear hI1 a1
    intro s0 s1 s2 s3 s4 s5 s6 s7 s8 s9 s10 i ys hrel
    show Code.wp _ _ _ _ _
    obtain ⟨h1, ho, hb⟩ := hrel
    by_cases hi : i < n
    · obtain ⟨g, rfl, hge, hlt, hc⟩ := own_at ho (by omega) (by omega)
      have hl : ys.length = n * 2 := ho.1
      have c0 := hc (i * 2) (by omega)
      have c1 := hc (i * 2 + 1) (by omega)
      have f0 := ho.frozenAt (i * 2)
      have f1 := ho.frozenAt (i * 2 + 1)
      have H := Lib.hid (And.intro h1 (And.intro ho (And.intro hb hge)))
      have hi1 : (i : Int) < n := by omega
      have hi0 : (0 : Int) ≤ i := by omega
      generalize ys[i * 2] = u0 at *
      generalize ys[i * 2 + 1] = u1 at *
      clear h1 ho hb hge hc
      go_wp2
      refine Handed.intro (n - (i + 1)) ?_ (hJ1 _ _ _ (fun Φ hΦ => hΦ _ _ _ _ _ _ _ _ _ _ _ (i + 1) (((ys.set (i * 2) (.string ⟨#[97, 110, 111, 116, 104, 101, 114, 32, 111, 110, 101]⟩)).set (i * 2 + 1) (.string ⟨#[]⟩))) ?_))
      · have := H.out.1
        omega
      · obtain ⟨h1, ho, hb, hge⟩ := H.out
        have s1 := ho.stored (i * 2) (.string ⟨#[97, 110, 111, 116, 104, 101, 114, 32, 111, 110, 101]⟩)
        have s2 := s1.1.stored (i * 2 + 1) (.string ⟨#[]⟩)
        exact ⟨by omega, s2.1, grown_set1 (grown_set1 hb _ _) _ _⟩
    · have hi2 : ((i : Int) < n) = False := by simp; omega
      have H := Lib.hid hb
      clear ho hb h1 hi
      go_wp2
      go_end0
      exact HP.out _ H.out
end Go.Proofs.YtcjafcbekegmlaaGreatDoor

namespace Go.Proofs.YtcjafcbekegmlaaGreatDoor
set_option linter.unusedVariables false
open Go.RowKit Go.Instr
attribute [local go_sem] ba_get ByteArray.mk_append_mk
theorem decN_small (s : List UInt8) : (decN s).1.2.1.length ≤ 16 ∧ (decN s).1.2.2.2.length = 16 := by
  rcases decN_cases s with h | ⟨n, h, h1, h2, _⟩
  · rw [h]; exact ⟨Nat.zero_le _, rfl⟩
  · rw [h]
    exact ⟨(fineN_parts h2).2.2.1, h1⟩
end Go.Proofs.YtcjafcbekegmlaaGreatDoor

namespace Go.Proofs.YtcjafcbekegmlaaGreatDoor
set_option linter.unusedVariables false
open Go.RowKit Go.Instr
attribute [local go_sem] ba_get ByteArray.mk_append_mk
def PutIEnd (w : World) (r : List Trie.KV × Nat) (e : Ending) (w' : World) : Prop :=
  ∃ A n c, e = .returned (.tuple #[.slice A n c, .int .i64 (r.2 : Int)]) ∧ n = r.1.length ∧ n ≤ c ∧ w'.ownsRow w.heap.size 76 2 (.slice A n c) n (icells r.1) ∧ Below w.heap.size w w'
set_option maxRecDepth 100000 in
set_option maxHeartbeats 2000000 in
theorem ref10_Put (w : World) (A : Option Addr) (c : Nat) (l : List Trie.KV) (HR : Reads w w.heap.size 2 A l.length (icells l)) (hc : l.length ≤ c) (hl : l.length ≤ 1000) (key value : List UInt8) (hk : key.length ≤ 9223372036854775807) (hv : value.length ≤ 9223372036854775807) :
    Calls Tryz.prog 43 #[.slice A l.length c, .string ⟨key.toArray⟩, .string ⟨value.toArray⟩] w (PutIEnd w (Trie.rput l key value)) := by
  have HP : Hid (∀ l2 c2, Trie.rput l key value = (l2, c2) → ∀ A n c w', n = l2.length → n ≤ c → w'.ownsRow w.heap.size 76 2 (.slice A n c) n (icells l2) → Below w.heap.size w w' → PutIEnd w (Trie.rput l key value) (.returned (.tuple #[.slice A n c, .int .i64 (c2 : Nat)])) w') := Lib.hid (by
    intro l2 c2 e A n c w' h1 h2 h3 h4
    unfold PutIEnd
    rw [e]
    exact ⟨A, n, c, rfl, h1, h2, h3, h4⟩)
  generalize PutIEnd w (Trie.rput l key value) = P at HP ⊢
  have HKy := Lib.hid (ref10_Keyed key hk w)
  have HA := Lib.hid (ref10_At w A c l HR (by omega) key)
  have hat := Trie.atI_le key l
  have HRR := Lib.hid HR
  obtain ⟨i0, hi0, hz0, hz1, hz2⟩ := info_parts info_item
  have e9 : ((1024 : Int) ≤ l.length) = False := by simp; omega
  have HNil : Hid (∀ W : World, W.ownsRow w.heap.size 76 2 (.slice none 0 0) 0 (icells [])) := Lib.hid (fun W => World.ownsRow_nil _ _ _ _)
  clear HR
  cases hkey : Trie.keyedW key with
  | false =>
    have T := Lib.hid (HP.out [] 1 (by simp [Trie.rput, hkey]) none 0 0 w rfl (Nat.le_refl _) (HNil.out _) (Below.refl _ _))
    rw [hkey] at HKy
    clear HP HA hat hkey
    go_enter Tryz.func43, Tryz.ntmps43
    go_wp2_with (go_at_call 69; refine HKy.out.mono ?_; rintro e w1 ⟨rfl, rfl⟩)
    exact T.out
  | true =>
    rw [hkey] at HKy
    by_cases h0 : value = []
    · subst h0
      have T := Lib.hid (HP.out [] 2 (by simp [Trie.rput, hkey]) none 0 0)
      unfold AtIEnd at HA
      clear HP hat hkey
      generalize (Trie.atI key l).1 = i at *
      generalize (Trie.atI key l).2 = b at *
      go_enter Tryz.func43, Tryz.ntmps43
      go_wp2_with (first | (go_at_call 69; refine HKy.out.mono ?_; rintro e w1 ⟨rfl, rfl⟩) | (go_at_call 76; refine HA.out.mono ?_; rintro e w2 ⟨rfl, hb⟩))
      exact T.out _ rfl (Nat.le_refl _) (HNil.out _) hb
    · have hv1 : ((value.length : Int) < 1) = False := by have := List.length_pos_iff.2 h0; simp; omega
      by_cases h32 : 32 < value.length
      · have e6 : ((32 : Int) < value.length) = True := by simp; omega
        have T := Lib.hid (HP.out [] 2 (by simp [Trie.rput, hkey, h32]) none 0 0)
        unfold AtIEnd at HA
        clear HP hat hkey h0 h32
        generalize (Trie.atI key l).1 = i at *
        generalize (Trie.atI key l).2 = b at *
        go_enter Tryz.func43, Tryz.ntmps43
        go_wp2_with (first | (go_at_call 69; refine HKy.out.mono ?_; rintro e w1 ⟨rfl, rfl⟩) | (go_at_call 76; refine HA.out.mono ?_; rintro e w2 ⟨rfl, hb⟩))
        exact T.out _ rfl (Nat.le_refl _) (HNil.out _) hb
      · have e6 : ((32 : Int) < value.length) = False := by simp; omega
        have hvb : (value.isEmpty || decide (32 < value.length)) = false := by simp [h0]; omega
        cases hb : (Trie.atI key l).2 with
        | false =>
          have HE := Lib.hid (HP.out (l.take (Trie.atI key l).1 ++ [(key, value)] ++ l.drop (Trie.atI key l).1) 0 (by simp [Trie.rput, hkey, hvb, hb]))
          unfold AtIEnd at HA
          rw [hb] at HA
          have hii := hat.1
          clear HP hkey h0 h32 hat hb hvb
          generalize (Trie.atI key l).1 = i at *
          have hic : (i : Int) ≤ c := by omega
          have hil : (i : Int) ≤ l.length := by omega
          have hi00 : (0 : Int) ≤ i := by omega
          obtain ⟨A1, c1, SL1, RD1⟩ := it_cut_to A l l.length c i rfl (by omega) hc
          obtain ⟨A2, c2, SL2, RD2⟩ := it_cut_from A l l.length c i rfl (by omega) hc
          have HSR : Hid (icells (l.take i) ++ [.string ⟨key.toArray⟩, .string ⟨value.toArray⟩] ++ icells (l.drop i) = icells (l.take i ++ [(key, value)] ++ l.drop i)) := Lib.hid (by rw [icells_append, icells_append]; rfl)
          have HSUM : Hid (i + 1 + (l.length - i) = (l.take i ++ [(key, value)] ++ l.drop i).length) := Lib.hid (by simp only [List.length_append, List.length_take, List.length_drop, List.length_cons, List.length_nil]; omega)
          have hlm : i + 1 + (l.length - i) ≤ 1001 := by omega
          go_enter Tryz.func43, Tryz.ntmps43
          go_wp2_with fail
          refine HKy.out.mono ?_
          rintro e w1 ⟨rfl, rfl⟩
          go_wp2_with fail
          refine HA.out.mono ?_
          rintro e w1 ⟨rfl, hb1⟩
          have R1 := RD1 w1 _ (HRR.out.below hb1)
          go_wp2_with (first
            | (at_builtin; refine wpList_append_any w1 rfl _ _ 39 rfl w.heap.size 76 i0 _ 2 32 Tryz.underlying39 hi0 hz0 hz1 hz2 rfl (by decide) (.slice none 0 0) 0 [] rfl (World.ownsRow_nil _ _ _ _) w.heap.size A1 i c1 (icells (l.take i)) rfl R1 (icells_one _) (by simp only [maxLen]; omega) (by omega) hb1.size ?_; intro v2 w2 own2 hg2 ho2; rw [Nat.zero_add, List.nil_append] at own2; obtain ⟨Av2, cv2, rfl, _, _, _⟩ := own_form own2; have hb2 : Below w.heap.size w w2 := hb1.grown hg2 hb1.size (by intro k e; cases e); clear hg2 ho2 R1)
            | (at_builtin; refine wpList_append_new w2 76 [.string ⟨key.toArray⟩, .string ⟨value.toArray⟩] rfl _ _ 39 rfl w.heap.size 2 32 _ info_item Tryz.underlying39 rfl (by decide) (.slice Av2 i cv2) i (icells (l.take i)) rfl own2 1 1 rfl rfl (by simp [Value.oneCell']) (by simp only [maxLen]; omega) (by omega) w.heap.size w hb2 (Nat.le_refl _) hb2.size ?_; intro v3 w3 own3 hb3 _ _ _; obtain ⟨Av3, cv3, rfl, _, _, hge3⟩ := own_form own3; have R2 := RD2 w3 _ (HRR.out.below hb3); have lt3 := own3.lt)
            | (at_builtin; refine wpList_append_any w3 rfl _ _ 39 rfl w.heap.size 76 i0 _ 2 32 Tryz.underlying39 hi0 hz0 hz1 hz2 rfl (by decide) (.slice Av3 (i + 1) cv3) (i + 1) (icells (l.take i) ++ [.string ⟨key.toArray⟩, .string ⟨value.toArray⟩]) rfl own3 w.heap.size A2 (l.length - i) c2 (icells (l.drop (i))) rfl R2 (icells_one _) (by simp only [maxLen]; omega) (by omega) hb3.size ?_; intro v4 w4 own4 hg4 _; obtain ⟨Av4, cv4, rfl, _, hc4, _⟩ := own_form own4; have hb4 : Below w.heap.size w w4 := hb3.grown hg4 hb3.size (fun k e => (lt3 k e).1); clear hg4 R2))
          rw [HSR.out] at own4
          exact HE.out _ _ _ _ HSUM.out hc4 own4 hb4
        | true =>
          have HE := Lib.hid (HP.out (l.take (Trie.atI key l).1 ++ [(key, value)] ++ l.drop ((Trie.atI key l).1 + 1)) 0 (by simp [Trie.rput, hkey, hvb, hb]))
          unfold AtIEnd at HA
          rw [hb] at HA
          have hii := hat.2 hb
          clear HP hkey h0 h32 hat hb hvb
          generalize (Trie.atI key l).1 = i at *
          have hic : (i : Int) ≤ c := by omega
          have hil : (i : Int) ≤ l.length := by omega
          have hi2 : (i : Int) + 1 ≤ l.length := by omega
          have hi00 : (0 : Int) ≤ i := by omega
          obtain ⟨A1, c1, SL1, RD1⟩ := it_cut_to A l l.length c i rfl (by omega) hc
          obtain ⟨A2, c2, SL2, RD2⟩ := it_cut_from A l l.length c (i + 1) rfl (by omega) hc
          have SL2' := SL2
          rw [show ((i + 1 : Nat) : Int) = (i : Int) + 1 from rfl] at SL2'
          have HSR : Hid (icells (l.take i) ++ [.string ⟨key.toArray⟩, .string ⟨value.toArray⟩] ++ icells (l.drop (i + 1)) = icells (l.take i ++ [(key, value)] ++ l.drop (i + 1))) := Lib.hid (by rw [icells_append, icells_append]; rfl)
          have HSUM : Hid (i + 1 + (l.length - (i + 1)) = (l.take i ++ [(key, value)] ++ l.drop (i + 1)).length) := Lib.hid (by simp only [List.length_append, List.length_take, List.length_drop, List.length_cons, List.length_nil]; omega)
          have hlm : i + 1 + (l.length - (i + 1)) ≤ 1001 := by omega
          go_enter Tryz.func43, Tryz.ntmps43
          go_wp2_with fail
          refine HKy.out.mono ?_
          rintro e w1 ⟨rfl, rfl⟩
          go_wp2_with fail
          refine HA.out.mono ?_
          rintro e w1 ⟨rfl, hb1⟩
          have R1 := RD1 w1 _ (HRR.out.below hb1)
          go_wp2_with (first
            | (at_builtin; refine wpList_append_any w1 rfl _ _ 39 rfl w.heap.size 76 i0 _ 2 32 Tryz.underlying39 hi0 hz0 hz1 hz2 rfl (by decide) (.slice none 0 0) 0 [] rfl (World.ownsRow_nil _ _ _ _) w.heap.size A1 i c1 (icells (l.take i)) rfl R1 (icells_one _) (by simp only [maxLen]; omega) (by omega) hb1.size ?_; intro v2 w2 own2 hg2 ho2; rw [Nat.zero_add, List.nil_append] at own2; obtain ⟨Av2, cv2, rfl, _, _, _⟩ := own_form own2; have hb2 : Below w.heap.size w w2 := hb1.grown hg2 hb1.size (by intro k e; cases e); clear hg2 ho2 R1)
            | (at_builtin; refine wpList_append_new w2 76 [.string ⟨key.toArray⟩, .string ⟨value.toArray⟩] rfl _ _ 39 rfl w.heap.size 2 32 _ info_item Tryz.underlying39 rfl (by decide) (.slice Av2 i cv2) i (icells (l.take i)) rfl own2 1 1 rfl rfl (by simp [Value.oneCell']) (by simp only [maxLen]; omega) (by omega) w.heap.size w hb2 (Nat.le_refl _) hb2.size ?_; intro v3 w3 own3 hb3 _ _ _; obtain ⟨Av3, cv3, rfl, _, _, hge3⟩ := own_form own3; have R2 := RD2 w3 _ (HRR.out.below hb3); have lt3 := own3.lt)
            | (at_builtin; refine wpList_append_any w3 rfl _ _ 39 rfl w.heap.size 76 i0 _ 2 32 Tryz.underlying39 hi0 hz0 hz1 hz2 rfl (by decide) (.slice Av3 (i + 1) cv3) (i + 1) (icells (l.take i) ++ [.string ⟨key.toArray⟩, .string ⟨value.toArray⟩]) rfl own3 w.heap.size A2 (l.length - (i + 1)) c2 (icells (l.drop ((i + 1)))) rfl R2 (icells_one _) (by simp only [maxLen]; omega) (by omega) hb3.size ?_; intro v4 w4 own4 hg4 _; obtain ⟨Av4, cv4, rfl, _, hc4, _⟩ := own_form own4; have hb4 : Below w.heap.size w w4 := hb3.grown hg4 hb3.size (fun k e => (lt3 k e).1); clear hg4 R2))
          rw [HSR.out] at own4
          exact HE.out _ _ _ _ HSUM.out hc4 own4 hb4
end Go.Proofs.YtcjafcbekegmlaaGreatDoor

namespace Go.Proofs.YtcjafcbekegmlaaGreatDoor
set_option linter.unusedVariables false
open Go.RowKit Go.Instr
namespace Trie
end Trie
theorem told_700m {t : Trie.T} (h : Trie.Good t) (may : List UInt8 → Bool) : ∀ x ∈ toldW may t, x.length ≤ 700 := by
  have key : ∀ (t : Trie.T) (pl : List UInt8), Trie.At pl t → ∀ x ∈ Trie.goT may t pl, (Trie.textT x.2).length ≤ 700 := by
    have one : ∀ (t : Trie.T) (pl : List UInt8), Trie.At pl t → t ≠ .nil → (Trie.textT t).length ≤ 700 := fun t pl ha hn => nodeText_len (Trie.sumsT_length t) (Trie.fineT hn ha.wf ha.small)
    intro t
    induction t with
    | nil => intro pl _ x hx; cases hx
    | leaf p v =>
      intro pl ha x hx
      simp only [Trie.goT] at hx
      split at hx
      · rw [List.mem_singleton] at hx
        subst hx
        exact one _ _ ha (by simp)
      · cases hx
    | ext p t ih =>
      intro pl ha x hx
      simp only [Trie.goT] at hx
      split at hx
      · rcases List.mem_cons.1 hx with rfl | hx
        · exact one _ _ ha (by simp)
        · exact ih _ ha.below x hx
      · cases hx
    | branch v kids ih =>
      intro pl ha x hx
      simp only [Trie.goT] at hx
      split at hx
      · rcases List.mem_cons.1 hx with rfl | hx
        · exact one _ _ ha (by simp)
        · obtain ⟨i, _, hx⟩ := List.mem_flatMap.1 hx
          exact ih i _ (ha.kid i) x hx
      · cases hx
  intro x hx
  unfold toldW textsD at hx
  obtain ⟨y, hy, rfl⟩ := List.mem_map.1 hx
  exact key t [] (Trie.At.top h) y hy
end Go.Proofs.YtcjafcbekegmlaaGreatDoor
