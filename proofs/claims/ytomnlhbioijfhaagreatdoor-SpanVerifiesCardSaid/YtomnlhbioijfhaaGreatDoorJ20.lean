import Derived.Test.YtomnlhbioijfhaaGreatDoorJ19
import Derived.Test.YtomnlhbioijfhaaGreatDoorJ18
import Derived.Test.YtomnlhbioijfhaaGreatDoorJ02
set_option linter.unusedSimpArgs false
set_option linter.unusedVariables false
namespace Go.Proofs.YtomnlhbioijfhaaGreatDoor
open Go.RowKit Go.Instr
attribute [local go_sem] ba_get ByteArray.mk_append_mk
attribute [local go_sem ↓] Go.wp_at_zero Go.wp_at_succ
namespace Trie
def ofW : T → List (List UInt8 × List UInt8) → T × Nat
 | t, []=>(t,0)
 | t,x :: l=>if putCode x.1 x.2 = 0 then ofW (put t (Nib.of x.1) x.2) l else (.nil,putCode x.1 x.2)
theorem putCode_zero {key value : List UInt8} (h : putCode key value = 0) : keyedW key = true ∧ value ≠ [] ∧ value.length ≤ 32:=by
 unfold putCode at h
 split at h
 ·rename_i hk
  split at h
  ·cases h
  ·rename_i hv
   simp at hv
   exact ⟨hk,hv.1,hv.2⟩
 ·cases h
end Trie
theorem icells_at {l : List (List UInt8 × List UInt8)} {i : Nat} (h : i < l.length) : (icells l)[2 * i]? = some (.string ⟨l[i].1.toArray⟩) ∧ (icells l)[2 * i + 1]? = some (.string ⟨l[i].2.toArray⟩):=by
 induction l generalizing i with
 | nil=>simp at h
 | cons a l ih =>
  rcases i with _ | i
  ·simp [icells]
  ·have:=ih (show i < l.length by simpa using h)
   rw [show 2 * (i + 1) = 2 * i + 1 + 1 by omega]
   simpa [icells] using this
theorem icells_length (l : List (List UInt8 × List UInt8)) : (icells l).length = 2 * l.length:=by
 induction l with
 | nil=>rfl
 | cons a l ih =>
  rw [show icells (a :: l) = .string ⟨a.1.toArray⟩ :: .string ⟨a.2.toArray⟩ :: icells l from rfl,List.length_cons,List.length_cons,ih,List.length_cons]; omega
set_option maxRecDepth 100000 in
set_option maxHeartbeats 1000000 in
theorem trie_Of (l : List (List UInt8 × List UInt8)) (hl : l.length ≤ 1000) (hs : ∀ x ∈ l,x.1.length ≤ 9223372036854775807 ∧ x.2.length ≤ 9223372036854775807) (w : World) (hT : Tbl w) (A : Option Addr) (c : Nat) (HR : Reads w w.heap.size 2 A l.length (icells l)) :
  Calls Tryz.prog 31 #[.slice A l.length c] w (TPutEnd w (Trie.ofW .nil l).1 (Trie.ofW .nil l).2):=by
 have HP : Hid (∀ (t' : Trie.T) (c : Nat) v' w',Trie.ofW .nil l = (t',c) → Below w.heap.size w w' → (c = 0 → TrieP w' t' v') → (c ≠ 0 → v' = .pointer none) → TPutEnd w (Trie.ofW .nil l).1 (Trie.ofW .nil l).2 (.returned (.tuple #[v',.int .i64 (c : Int)])) w'):=Lib.hid (fun t' c v' w' h1 h2 h3 h4=>⟨v',by rw [h1],h2,by rw [h1]; exact h3,by rw [h1]; exact h4⟩)
 generalize TPutEnd w (Trie.ofW .nil l).1 (Trie.ofW .nil l).2 = P at HP ⊢
 have HRR:=Lib.hid HR
 have HS:=Lib.hid hs
 have HTb:=Lib.hid hT
 clear HR hs hT
 go_enter Tryz.func31,Tryz.ntmps31
 go_wp2_with (go_at_call 74; refine (trie_New _).mono ?_; rintro e w1 ⟨v0,rfl,hk0,hb0⟩; have H0:=Lib.hid (And.intro hk0 hb0); clear hk0 hb0)
 refine wp_loop_ghost_k (fun k a wr => ∀ Φ : Act → Prop,(∀ (s0 s1 s2 s3 s5 s6 s7 s8 s9 s13 s14 s15 s16 s17 s18 s19 s20 s21 s22 s23 s24 s25 s26 s27 s28 s29 s30 : Value) (i : Nat) (t : Trie.T) (v : Value),(i + k = l.length ∧ Trie.ofW .nil l = Trie.ofW t (l.drop i) ∧ Trie.count t ≤ i ∧ TrieP wr t v ∧ Below w.heap.size w wr) → Φ { tmps:=#[s0,s1,s2,s3,v,s5,s6,s7,s8,s9,.slice A l.length c,.int .i64 l.length,.int .i64 (i : Int),s13,s14,s15,s16,s17,s18,s19,s20,s21,s22,s23,s24,s25,s26,s27,s28,s29,s30],defers := [] }) → Φ a) (l.length) ?_ ?_
 ·refine fun Φ hΦ=>hΦ _ _ _ _ _ _ _ _ _ _ _ _ _ _ _ _ _ _ _ _ _ _ _ _ _ _ _ (0) (.nil) (v0) ?_
  exact ⟨by omega,rfl,by simp [Trie.count],H0.out.1,H0.out.2⟩
 ·intro k1 a1 wr1 hI1 J1 K1 hJ1 hK1
  refine hI1 (fun a=>Code.wp _ _ _ a _) ?_
  clear hI1 a1
  intro s0 s1 s2 s3 s4 s5 s6 s7 s8 s9 s10 s11 s12 s13 s14 s15 s16 s17 s18 s19 s20 s21 s22 s23 s24 s25 s26 i t v hrel
  show Code.wp _ _ _ _ _
  obtain ⟨h1,h2,h3,hk,hb⟩:=hrel
  by_cases hi : i < l.length
  ·obtain ⟨ad,off,rfl,hbl,hcell⟩:=HRR.out.form (by omega) (by omega)
   have ic:=icells_at hi
   have hil:=icells_length l
   have e0 : (icells l)[2 * i]'(by omega) = .string ⟨l[i].1.toArray⟩:=by
    have:=ic.1; rw [List.getElem?_eq_getElem (by omega)] at this; exact Option.some.inj this
   have e1 : (icells l)[2 * i + 1]'(by omega) = .string ⟨l[i].2.toArray⟩:=by
    have:=ic.2; rw [List.getElem?_eq_getElem (by omega)] at this; exact Option.some.inj this
   have q0:=hcell (2 * i) (by omega)
   have q1:=hcell (2 * i + 1) (by omega)
   rw [e0] at q0
   rw [e1] at q1
   have r0 : wr1.cell? ⟨ad,off + i * 2,none⟩ = some (.string ⟨l[i].1.toArray⟩):=by rw [show i * 2 = 2 * i by omega]; exact (hb.cell (p:=⟨ad,off + 2 * i,none⟩) hbl).trans q0
   have r1 : wr1.cell? ⟨ad,off + i * 2 + 1,none⟩ = some (.string ⟨l[i].2.toArray⟩):=by rw [show off + i * 2 + 1 = off + (2 * i + 1) by omega]; exact (hb.cell (p:=⟨ad,off + (2 * i + 1),none⟩) hbl).trans q1
   have hi1 : (i : Int) < l.length:=by omega
   have hi0 : (0 : Int) ≤ i:=by omega
   have hd : l.drop i = l[i] :: l.drop (i + 1):=List.drop_eq_getElem_cons hi
   have hlen:=HS.out _ (List.getElem_mem hi)
   have HI:=Lib.hid (And.intro h1 (And.intro h2 (And.intro h3 (And.intro hk (And.intro hb hd)))))
   clear ic hil e0 e1 q0 q1 h1 h2 h3 hk hb hcell hd
   generalize l[i] = x at *
   obtain ⟨key,value⟩:=x
   have HW4 : Hid (∀ f,Below wr1.heap.size wr1 (wr1.alloc (.cells f 77))):=Lib.hid (fun f=>by go_grown)
   by_cases hpc : Trie.putCode key value = 0
   ·have HPut : Hid (∀ W,Below wr1.heap.size wr1 W → Calls Tryz.prog 46 #[v,.string ⟨key.toArray⟩,.string ⟨value.toArray⟩] W (TPutEnd W (Trie.put t (Nib.of key) value) 0)):=Lib.hid (fun W hW=>by
     rw [← hpc]
     exact trie_Put W t v (HI.out.2.2.2.1.next hW) (by have:=HI.out.2.2.1; omega) (HTb.out.next (HI.out.2.2.2.2.1.nxt hW)) key value hlen.1 hlen.2)
    have HQ : Hid (Trie.ofW t (l.drop i) = Trie.ofW (Trie.put t (Nib.of key) value) (l.drop (i + 1))):=Lib.hid (by rw [HI.out.2.2.2.2.2,Trie.ofW,if_pos hpc])
    have HCn : Hid (Trie.count (Trie.put t (Nib.of key) value) ≤ i + 1):=Lib.hid (by have:=Trie.count_put t (Nib.of key) value; have:=HI.out.2.2.1; omega)
    clear hpc hlen
    generalize Trie.put t (Nib.of key) value = t2 at *
    go_wp2_with (go_at_call 46; refine (HPut.out _ (HW4.out _)).mono ?_; rintro e w3 ⟨v3,rfl,hb3,hk3,hn3⟩)
    refine Handed.intro (l.length - (i + 1)) ?_ (hJ1 _ _ _ (fun Φ hΦ=>hΦ _ _ _ _ _ _ _ _ _ _ _ _ _ _ _ _ _ _ _ _ _ _ _ _ _ _ _ (i + 1) (t2) (v3) ?_))
    ·have:=HI.out.1; omega
    exact ⟨by have:=HI.out.1; omega,HI.out.2.1.trans HQ.out,HCn.out,hk3 trivial,HI.out.2.2.2.2.1.nxt ((HW4.out _).nxt hb3)⟩
   ·have HPut : Hid (∀ W,Below wr1.heap.size wr1 W → Calls Tryz.prog 46 #[v,.string ⟨key.toArray⟩,.string ⟨value.toArray⟩] W (TPutEnd W (Trie.put t (Nib.of key) value) (Trie.putCode key value))):=Lib.hid (fun W hW=>by
     exact trie_Put W t v (HI.out.2.2.2.1.next hW) (by have:=HI.out.2.2.1; omega) (HTb.out.next (HI.out.2.2.2.2.1.nxt hW)) key value hlen.1 hlen.2)
    have HQ : Hid (Trie.ofW t (l.drop i) = (.nil,Trie.putCode key value)):=Lib.hid (by rw [HI.out.2.2.2.2.2,Trie.ofW,if_neg hpc])
    have hpc1 : ((Trie.putCode key value : Int) != 0) = true:=by simp; exact hpc
    have HNZ:=Lib.hid hpc
    clear hpc hlen
    generalize Trie.put t (Nib.of key) value = t2 at *
    generalize Trie.putCode key value = pc at *
    go_wp2_with (go_at_call 46; refine (HPut.out _ (HW4.out _)).mono ?_; rintro e w3 ⟨v3,rfl,hb3,hk3,hn3⟩)
    exact HP.out _ _ _ _ (HI.out.2.1.trans HQ.out) (HI.out.2.2.2.2.1.nxt ((HW4.out _).nxt hb3)) (fun h=>absurd h HNZ.out) (fun _=>rfl)
  ·have hi1 : ((i : Int) < l.length) = False:=by simp; omega
   have HQ : Hid (Trie.ofW t (l.drop i) = (t,0)):=Lib.hid (by rw [List.drop_of_length_le (by omega),Trie.ofW])
   have HI:=Lib.hid (And.intro h2 (And.intro hk hb))
   clear h1 h2 h3 hk hb hi
   go_wp2_with fail
   exact HP.out _ _ _ _ (HI.out.1.trans HQ.out) HI.out.2.2 (fun _=>HI.out.2.1) (fun h=>absurd rfl h)
end Go.Proofs.YtomnlhbioijfhaaGreatDoor
namespace Go.Proofs.YtomnlhbioijfhaaGreatDoor
open Go.RowKit Go.Instr
theorem take_eq_succ' {α : Type} {xs ys : List α} {i : Nat} (h1 : i < xs.length) (h2 : i < ys.length) (h : xs.take i = ys.take i) : (xs.take (i + 1) = ys.take (i + 1)) ↔ xs[i] = ys[i]:=by
 rw [List.take_succ_eq_append_getElem h1,List.take_succ_eq_append_getElem h2,h]
 exact ⟨fun e=>by simpa using List.append_cancel_left e,fun e=>by rw [e]⟩
set_option maxHeartbeats 400000 in
theorem book_SameTexts (A B : Option Addr) (n m c d : Nat) (xs ys : List (List UInt8)) (w : World) (ha : Reads w w.heap.size 1 A n (strv xs)) (hb : Reads w w.heap.size 1 B m (strv ys)) (hn : n ≤ 1048576) (hm : m ≤ 1048576) :
    Calls Tryz.prog 43 #[.slice A n c, .slice B m d] w fun e w' => e = .returned (.bool (decide (xs = ys))) ∧ Below w.heap.size w w' := by
  have hxl : xs.length = n := by have := ha.1; rw [strv_length] at this; omega
  have hyl : ys.length = m := by have := hb.1; rw [strv_length] at this; omega
  by_cases hnm : n = m
  · subst hnm
    have hq : ((n : Int) == (n : Int)) = true := by simp
    go_enter Tryz.func43, Tryz.ntmps43
    go_wp2
    refine wp_loop_ghost_k (fun k a wr => ∀ Φ : Act → Prop, (∀ (s2 s3 s4 s7 s8 s9 s10 s11 s12 s13 s14 s15 s16 s17 s18 s19 s20 s21 s22 s23 s24 s25 s26 s27 s28 s29 s30 : Value) (i : Nat) (q : Bool), (i + k = n ∧ (q = true ↔ xs.take i = ys.take i) ∧ (q = false → xs ≠ ys) ∧ Below w.heap.size w wr) → Φ { tmps := #[.slice A n c, .slice B n d, s2, s3, s4, .bool q, .int .i64 i, s7, s8, s9, s10, s11, s12, s13, s14, s15, s16, s17, s18, s19, s20, s21, s22, s23, s24, s25, s26, s27, s28, s29, s30], defers := [] }) → Φ a) (n) ?_ ?_
    · refine fun Φ hΦ => hΦ _ _ _ _ _ _ _ _ _ _ _ _ _ _ _ _ _ _ _ _ _ _ _ _ _ _ _ (0) (true) ?_
      exact ⟨by omega, by simp, by simp, Below.refl _ _⟩
    · intro k1 a1 wr1 hI1 J1 K1 hJ1 hK1
      refine hI1 (fun a => Code.wp _ _ _ a _) ?_
      clear hI1 a1
      intro s0 s1 s2 s3 s4 s5 s6 s7 s8 s9 s10 s11 s12 s13 s14 s15 s16 s17 s18 s19 s20 s21 s22 s23 s24 s25 s26 i q hrel
      show Code.wp _ _ _ _ _
      obtain ⟨h1, h2, h3, hw⟩ := hrel
      cases q with
      | false =>
        have h3' : xs ≠ ys := by simpa using h3
        have H3 := Lib.hid h3'
        clear h3'
        clear h2 h3
        go_wp2
        go_ret
        exact ⟨ret_bool (by simpa using H3.out), hw⟩
      | true =>
        have H2 := Lib.hid h2
        clear h2 h3
        by_cases hi : i < n
        · obtain ⟨b1, o1, rfl, hl1, hc1⟩ := ha.form (by omega) (by omega)
          obtain ⟨b2, o2, rfl, hl2, hc2⟩ := hb.form (by omega) (by omega)
          have g1 := (hw.cell (p := ⟨b1, o1 + i, none⟩) hl1).trans (hc1 i (by rw [strv_length]; omega))
          have g2 := (hw.cell (p := ⟨b2, o2 + i, none⟩) hl2).trans (hc2 i (by rw [strv_length]; omega))
          simp only [strv, List.getElem_map] at g1 g2
          clear hc1 hc2
          go_wp2
          go_quiet (fail)
          go_wp2
          refine Handed.intro (n - (i + 1)) ?_ (hJ1 _ _ _ (fun Φ hΦ => hΦ _ _ _ _ _ _ _ _ _ _ _ _ _ _ _ _ _ _ _ _ _ _ _ _ _ _ _ (i + 1) (xs[i] == ys[i]) ?_))
          · omega
          · have hx := take_eq_succ' (xs := xs) (ys := ys) (i := i) (by omega) (by omega) (by simpa using H2.out)
            refine ⟨by omega, ?_, ?_, below_drewN hw _⟩
            · rw [hx]; simp
            · intro hq e
              subst e
              simp at hq
        · have e : i = n := by omega
          subst e
          go_wp2
          go_ret
          exact ⟨ret_bool (by have h2 : xs.take i = ys.take i := by simpa using H2.out
                              rw [List.take_of_length_le (by omega), List.take_of_length_le (by omega)] at h2
                              simpa using h2), hw⟩
  · have hq : ((n : Int) == (m : Int)) = false := by rw [beq_eq_false_iff_ne]; omega
    go_enter Tryz.func43, Tryz.ntmps43
    go_wp2
    refine wp_loop_rounds 1 ?_
    rw [rounds_succ]
    go_wp2
    go_ret
    exact ⟨ret_bool (by symm; rw [decide_eq_false_iff_not]; intro e; subst e; omega), Below.refl _ _⟩
theorem it_run (w : World) (a b : List UInt8 × List UInt8) : (Op.equalIn 10000 77 (.agg #[.string ⟨a.1.toArray⟩,.string ⟨a.2.toArray⟩]) (.agg #[.string ⟨b.1.toArray⟩,.string ⟨b.2.toArray⟩])).run Tryz.prog w = .ok (a == b) w:=by
 obtain ⟨a1,a2⟩:=a
 obtain ⟨b1,b2⟩:=b
 have u9:=Tryz.underlying9
 have a9:=Tryz.isAgg9
 have z9:=Tryz.sizeOf9
 have hS : Tryz.prog.underlying 77 = some (.struct (Tryz.prog.fieldsOf 77)):=by kernel_rfl
 have hp : Tryz.prog.stoodInHeld 77 = false:=by kernel_rfl
 rw [show (10000 : Nat) = 9999 + 1 from rfl,run_equalIn_agg w 9999 77 _ _ hS hp]
 simp only [Program.fieldsOf,Tryz.underlying77]
 go_simp
 by_cases h1 : a1 = b1 <;> by_cases h2 : a2 = b2 <;> simp [h1,h2]
 all_goals (intro h; exact absurd h (by assumption))
set_option maxHeartbeats 400000 in
theorem book_SameItems (A B : Option Addr) (n m c d : Nat) (xs ys : List (List UInt8 × List UInt8)) (w : World) (ha : Reads w w.heap.size 2 A n (icells xs)) (hb : Reads w w.heap.size 2 B m (icells ys)) (hn : n ≤ 1048576) (hm : m ≤ 1048576) :
    Calls Tryz.prog 11 #[.slice A n c, .slice B m d] w fun e w' => e = .returned (.bool (decide (xs = ys))) ∧ Below w.heap.size w w' := by
  have hxl : xs.length = n := by have := ha.1; rw [icells_length] at this; omega
  have hyl : ys.length = m := by have := hb.1; rw [icells_length] at this; omega
  by_cases hnm : n = m
  · subst hnm
    have hq : ((n : Int) == (n : Int)) = true := by simp
    go_enter Tryz.func11, Tryz.ntmps11
    go_wp2
    refine wp_loop_ghost_k (fun k a wr => ∀ Φ : Act → Prop, (∀ (s2 s3 s4 s7 s8 s9 s10 s11 s12 s13 s14 s15 s16 s17 s18 s19 s20 s21 s22 s23 s24 s25 s26 s27 s28 s29 s30 : Value) (i : Nat) (q : Bool), (i + k = n ∧ (q = true ↔ xs.take i = ys.take i) ∧ (q = false → xs ≠ ys) ∧ Below w.heap.size w wr) → Φ { tmps := #[.slice A n c, .slice B n d, s2, s3, s4, .bool q, .int .i64 i, s7, s8, s9, s10, s11, s12, s13, s14, s15, s16, s17, s18, s19, s20, s21, s22, s23, s24, s25, s26, s27, s28, s29, s30], defers := [] }) → Φ a) (n) ?_ ?_
    · refine fun Φ hΦ => hΦ _ _ _ _ _ _ _ _ _ _ _ _ _ _ _ _ _ _ _ _ _ _ _ _ _ _ _ (0) (true) ?_
      exact ⟨by omega, by simp, by simp, Below.refl _ _⟩
    · intro k1 a1 wr1 hI1 J1 K1 hJ1 hK1
      refine hI1 (fun a => Code.wp _ _ _ a _) ?_
      clear hI1 a1
      intro s0 s1 s2 s3 s4 s5 s6 s7 s8 s9 s10 s11 s12 s13 s14 s15 s16 s17 s18 s19 s20 s21 s22 s23 s24 s25 s26 i q hrel
      show Code.wp _ _ _ _ _
      obtain ⟨h1, h2, h3, hw⟩ := hrel
      cases q with
      | false =>
        have h3' : xs ≠ ys := by simpa using h3
        have H3 := Lib.hid h3'
        clear h3'
        clear h2 h3
        go_wp2
        go_ret
        exact ⟨ret_bool (by simpa using H3.out), hw⟩
      | true =>
        have H2 := Lib.hid h2
        clear h2 h3
        by_cases hi : i < n
        · obtain ⟨b1, o1, rfl, hl1, hc1⟩ := ha.form (by omega) (by omega)
          obtain ⟨b2, o2, rfl, hl2, hc2⟩ := hb.form (by omega) (by omega)
          have g1 : wr1.cell? ⟨b1, o1 + i * 2, none⟩ = some (.string ⟨(xs[i]'(by omega)).1.toArray⟩) := by
            have q := hc1 (2 * i) (by rw [icells_length]; omega)
            have r := (icells_at (l := xs) (i := i) (by omega)).1
            rw [List.getElem?_eq_getElem (by rw [icells_length]; omega)] at r
            rw [Option.some.inj r] at q
            rw [show o1 + i * 2 = o1 + (2 * i) by omega]
            exact (hw.cell (p := ⟨b1, o1 + (2 * i), none⟩) hl1).trans q
          have g1b : wr1.cell? ⟨b1, o1 + i * 2 + 1, none⟩ = some (.string ⟨(xs[i]'(by omega)).2.toArray⟩) := by
            have q := hc1 (2 * i + 1) (by rw [icells_length]; omega)
            have r := (icells_at (l := xs) (i := i) (by omega)).2
            rw [List.getElem?_eq_getElem (by rw [icells_length]; omega)] at r
            rw [Option.some.inj r] at q
            rw [show o1 + i * 2 + 1 = o1 + (2 * i + 1) by omega]
            exact (hw.cell (p := ⟨b1, o1 + (2 * i + 1), none⟩) hl1).trans q
          have g2 : wr1.cell? ⟨b2, o2 + i * 2, none⟩ = some (.string ⟨(ys[i]'(by omega)).1.toArray⟩) := by
            have q := hc2 (2 * i) (by rw [icells_length]; omega)
            have r := (icells_at (l := ys) (i := i) (by omega)).1
            rw [List.getElem?_eq_getElem (by rw [icells_length]; omega)] at r
            rw [Option.some.inj r] at q
            rw [show o2 + i * 2 = o2 + (2 * i) by omega]
            exact (hw.cell (p := ⟨b2, o2 + (2 * i), none⟩) hl2).trans q
          have g2b : wr1.cell? ⟨b2, o2 + i * 2 + 1, none⟩ = some (.string ⟨(ys[i]'(by omega)).2.toArray⟩) := by
            have q := hc2 (2 * i + 1) (by rw [icells_length]; omega)
            have r := (icells_at (l := ys) (i := i) (by omega)).2
            rw [List.getElem?_eq_getElem (by rw [icells_length]; omega)] at r
            rw [Option.some.inj r] at q
            rw [show o2 + i * 2 + 1 = o2 + (2 * i + 1) by omega]
            exact (hw.cell (p := ⟨b2, o2 + (2 * i + 1), none⟩) hl2).trans q
          have EQ := fun w => it_run w (xs[i]'(by omega)) (ys[i]'(by omega))
          clear hc1 hc2
          go_wp2
          go_region
          go_wp2
          refine Handed.intro (n - (i + 1)) ?_ (hJ1 _ _ _ (fun Φ hΦ => hΦ _ _ _ _ _ _ _ _ _ _ _ _ _ _ _ _ _ _ _ _ _ _ _ _ _ _ _ (i + 1) (xs[i] == ys[i]) ?_))
          · omega
          · have hx := take_eq_succ' (xs := xs) (ys := ys) (i := i) (by omega) (by omega) (by simpa using H2.out)
            refine ⟨by omega, ?_, ?_, below_drewN hw _⟩
            · rw [hx]; simp
            · intro hq e
              subst e
              simp at hq
        · have e : i = n := by omega
          subst e
          go_wp2
          go_ret
          exact ⟨ret_bool (by have h2 : xs.take i = ys.take i := by simpa using H2.out
                              rw [List.take_of_length_le (by omega), List.take_of_length_le (by omega)] at h2
                              simpa using h2), hw⟩
  · have hq : ((n : Int) == (m : Int)) = false := by rw [beq_eq_false_iff_ne]; omega
    go_enter Tryz.func11, Tryz.ntmps11
    go_wp2
    refine wp_loop_rounds 1 ?_
    rw [rounds_succ]
    go_wp2
    go_ret
    exact ⟨ret_bool (by symm; rw [decide_eq_false_iff_not]; intro e; subst e; omega), Below.refl _ _⟩
end Go.Proofs.YtomnlhbioijfhaaGreatDoor
namespace Go.Proofs.YtomnlhbioijfhaaGreatDoor
open Go.RowKit Go.Instr
attribute [local go_sem] ba_get ByteArray.mk_append_mk
attribute [local go_sem ↓] Go.wp_at_zero Go.wp_at_succ
namespace Trie
end Trie
theorem reads_blk {w : World} {b e size n : Nat} {xs : Array Value} (h : Blk w b e xs) (hn : xs.size = n * size) : Reads w w.heap.size size (some ⟨b,0,none⟩) n xs.toList:=by
 refine ⟨by simpa using hn,fun _=>⟨_,rfl,h.lt,fun j u hu => ?_⟩⟩
 have hj : j < xs.size:=by have:=(List.getElem?_eq_some_iff.1 hu).1; simpa using this
 have:=h.cell j
 rw [show (⟨b,0,none⟩ : Addr).add j = ⟨b,j,none⟩ by unfold Addr.add; split <;> simp_all]
 rw [this]
 simpa using hu
end Go.Proofs.YtomnlhbioijfhaaGreatDoor
namespace Go.Proofs.YtomnlhbioijfhaaGreatDoor
namespace Trie
theorem mem_itemsW {t : T} (h : Good t) (k v : List UInt8) : (k,v) ∈ itemsW t ↔ look t (Nib.of k) = v ∧ v ≠ []:=by
 rw [itemsW,List.mem_map]
 constructor
 ·rintro ⟨x,hx,e⟩
  obtain ⟨q,hq,rfl,hn⟩:=(mem_items t [] x h.wf).1 hx
  injection e with e1 e2
  subst e1
  simp only [List.nil_append] at e2 ⊢
  rw [Nib.of_joined q hq (h.even q hq hn).1,← e2]
  exact ⟨rfl,hn⟩
 ·rintro ⟨e,hn⟩
  subst e
  exact ⟨(Nib.of k,look t (Nib.of k)),(mem_items t [] _ h.wf).2 ⟨Nib.of k,Nib.fit_of k,rfl,hn⟩,by simp [Nib.joined_of]⟩
theorem item_code {t : T} (h : Good t) {k v : List UInt8} (hx : (k,v) ∈ itemsW t) : putCode k v = 0:=by
 obtain ⟨rfl,hn⟩:=(mem_itemsW h k v).1 hx
 obtain ⟨s1,s2⟩:=h.small _ (Nib.fit_of k) hn
 rw [Nib.of_length] at s1
 have hk : k ≠ []:=fun e=>(h.even _ (Nib.fit_of k) hn).2 (by rw [e]; rfl)
 have h1 : keyedW k = true:=by simp [keyedW,hk]; omega
 simp only [putCode,h1,if_true]
 rw [if_neg]
 simp [hn]
 omega
end Trie
namespace Trie
abbrev KV:=List UInt8 × List UInt8
def rises (l : List KV) : Prop:=l.Pairwise fun x y=>Op.bytesLess x.1 y.1 = true
theorem rises_itemsW {t : T} (h : Good t) : rises (itemsW t):=by
 rw [rises,itemsW,List.pairwise_map]
 refine (sorted_items t [] h.wf).imp_of_mem ?_
 intro x y hx hy hlt
 obtain ⟨q,hq,rfl,hqn⟩:=(mem_items t [] x h.wf).1 hx
 obtain ⟨r,hr,rfl,hrn⟩:=(mem_items t [] y h.wf).1 hy
 simp only [List.nil_append] at hlt ⊢
 rw [← Nib.blt_of,Nib.of_joined q hq (h.even q hq hqn).1,Nib.of_joined r hr (h.even r hr hrn).1]
 exact hlt
end Trie
end Go.Proofs.YtomnlhbioijfhaaGreatDoor
