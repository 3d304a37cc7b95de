/- The walks of layer 6 (oracle): All. No conditions. -/
import Derived.Test.YtojpijpajdiiiaaOrc7
namespace Go.Proofs.Ytojpijpajdiiiaa
set_option linter.unusedVariables false
open Go.RowKit Go.Instr
attribute [local go_sem] ba_get ByteArray.mk_append_mk add_zero_addr

def Srt (l : List Sg) : Prop := ∀ i j (hi : i < j) (hj : j < l.length), lp l[j] (l[i]'(by omega)) = false

theorem orc_clone (w : World) (base g n c : Nat) (l : List Sg) (h : w.ownsRow base 37 3 (.slice (some ⟨g, 0, none⟩) n c) n (srows l)) (hl : l.length ≤ 2000) :
    Calls Try.prog 18 #[.slice (some ⟨g, 0, none⟩) n c] w fun e w' => ∃ g' c', e = .returned (.slice (some ⟨g', 0, none⟩) n c') ∧ w'.ownsRow w.heap.size 37 3 (.slice (some ⟨g', 0, none⟩) n c') n (srows l) ∧ Below w.heap.size w w' := by
  obtain ⟨i0, hi0, hz0, hz1, hz2⟩ := info_parts info_sg
  have hn := h.1
  rw [srows_length] at hn
  have hcon := AnyE.slices_Clone Try.cloneF i0 _ 3 40 hi0 hz0 hz1 hz2 (by rfl) (by omega) Try.sizeOf37 g 0 n c (srows l) w (by rw [srows_length]; omega) (by simp only [maxLen]; omega) (by omega)
    (fun j u hu => by
      rw [Nat.zero_add, h.cellAt j (by have := (List.getElem?_eq_some_iff.1 hu).1; rw [srows_length] at this; omega)]
      exact hu) (srows_one l)
  change Calls Try.prog 18 _ _ _ at hcon
  refine hcon.mono ?_
  rintro e w' ⟨v', rfl, own, hne, hb⟩
  rcases own.2 with ⟨h', _⟩ | ⟨g', cap', cur, h', _⟩
  · exact absurd h' hne
  · subst h'
    exact ⟨g', cap', rfl, own, hb⟩

theorem orc_sort (w : World) (base g n c : Nat) (l : List Sg) (h : w.ownsRow base 37 3 (.slice (some ⟨g, 0, none⟩) n c) n (srows l)) (hl : l.length ≤ 2000) :
    Calls Try.prog 19 #[.slice (some ⟨g, 0, none⟩) n c, .func (.func 20) #[] #[]] w fun e w' => e = .returned (.tuple #[]) ∧ ∃ l', w'.ownsRow base 37 3 (.slice (some ⟨g, 0, none⟩) n c) n (srows l') ∧ l'.Perm l ∧ Srt l' ∧ w.grownBy w' (some g) := by
  have hn := h.1
  rw [srows_length] at hn
  have hnl : n = l.toArray.size := by simp; omega
  have eg : ∀ args w, (callFunc 20 args).run Try.prog w = .ok (.enter 20 args) w := enters_of Try.func20 (by kernel_rfl) rfl
  have hgl : g < w.heap.size := (h.lt g rfl).2
  have hcon := AnyQ.slices_SortFunc Try.sortF 3 Try.isAgg37 Try.sizeOf37 srow (fun _ => rfl) srow_one cmpSg sg_swo 20 #[] g 0 c l.toArray w eg (sg_lays g 0 _ w) (holds_own h) hgl (by simp; omega)
  change Calls Try.prog 19 _ _ _ at hcon
  rw [hnl]
  refine hcon.mono ?_
  rintro e w' ⟨rfl, d', m, os, hp, hs, rfl⟩
  have hsz : d'.size = l.length := by simpa using hp.1
  have hd : d'.toList.toArray = d' := by simp
  have := own_sorted (l' := d'.toList) (m := m) (os := os) h (by simpa using hsz)
  rw [hd] at this
  refine ⟨rfl, d'.toList, ?_, ?_, ?_, this.2⟩
  · rw [← hnl]; exact this.1
  · have hp2 := hp.2.2
    simp only [List.size_toArray] at hp2
    rw [Array.extract_eq_self_of_le (by omega)] at hp2
    simpa using hp2
  · intro i j hi hj
    have hj' : j < d'.size := by simpa using hj
    have := hs i j (Nat.zero_le _) hi (by simp; omega)
    rw [ltOf_lp, getElem!_pos d' j hj', getElem!_pos d' i (by omega)] at this
    simpa using this

def AllEnd (w : World) (l : List Sg) (e : Ending) (w' : World) : Prop :=
  ∃ A c l', e = .returned (.slice A l.length c) ∧ w'.ownsRow w.heap.size 37 3 (.slice A l.length c) l.length (srows l') ∧ l'.Perm l ∧ Srt l' ∧ Below w.heap.size w w'

theorem orc_All (w : World) (mb : Nat) (v : Value) (l : List Sg) (hT : Tab w mb v l) (hl : l.length ≤ 2000) :
    Calls Try.prog 13 #[.pointer (some ⟨mb + 1, 0, none⟩)] w (AllEnd w l) := by
  have hc1 : w.cell? ⟨mb + 1, 1, none⟩ = some v := hT.blk.cell 1
  have own := hT.own
  clear hT
  rcases own.2 with ⟨rfl, h0⟩ | ⟨g, c, cur, rfl, _⟩
  · have e0 : l = [] := List.eq_nil_of_length_eq_zero h0
    subst e0
    have HP : Hid (AllEnd w [] (.returned (.slice none 0 0)) w) := Lib.hid ⟨none, 0, [], rfl, World.ownsRow_nil _ _ _ _, List.Perm.refl _, by intro i j hi hj; simp at hj, Below.refl _ _⟩
    generalize AllEnd w [] = P at HP ⊢
    have hcl := AnyE.slices_Clone_nil Try.cloneF 0 0 w
    change Calls Try.prog 18 _ _ _ at hcl
    have hso := AnyF.slices_SortFunc_none Try.sortF none 0 (.func (.func 20) #[] #[]) w
    change Calls Try.prog 19 _ _ _ at hso
    clear own
    go_enter Try.func13, Try.ntmps13
    go_wp2_with fail
    refine hcl.mono ?_
    rintro e w1 ⟨rfl, rfl⟩
    go_wp2_with fail
    refine hso.mono ?_
    rintro e w1 ⟨rfl, rfl⟩
    go_wp2
    exact HP.out
  · generalize hn : l.length = n at own hc1
    have HP : Hid (∀ g' c' l' w', w'.ownsRow w.heap.size 37 3 (.slice (some ⟨g', 0, none⟩) n c') n (srows l') → l'.Perm l → Srt l' → Below w.heap.size w w' → AllEnd w l (.returned (.slice (some ⟨g', 0, none⟩) n c')) w') := Lib.hid (by
      intro g' c' l' w' h1 h2 h3 h4
      subst hn
      exact ⟨_, _, l', rfl, h1, h2, h3, h4⟩)
    generalize AllEnd w l = P at HP ⊢
    have hcl := orc_clone w _ g n c l own hl
    have hso := fun w1 g' c' h => orc_sort w1 w.heap.size g' n c' l h hl
    clear own
    go_enter Try.func13, Try.ntmps13
    go_wp2_with fail
    refine hcl.mono ?_
    rintro e w1 ⟨g', c', rfl, own1, hb1⟩
    have hlt := (own1.lt g' rfl).1
    go_wp2_with fail
    refine (hso w1 g' c' own1).mono ?_
    rintro e w2 ⟨rfl, l', own2, hp, hs, hg⟩
    have H := Lib.hid (HP.out g' c' l' w2 own2 hp hs (hb1.grown hg hb1.size (by intro k e; injection e with e; omega)))
    go_wp2
    exact H.out
end Go.Proofs.Ytojpijpajdiiiaa
