import Derived.Test.YtaplecncnkkigaaDoorC01
import Derived.Test.YtaplecncnkkigaaDoorC12
import Derived.Lib.Hide
import GoSem.Op.String
import Derived.Sort.Walk0
/- The blocks of memory that a walk keeps: a list of them, and what each step does to it. No conditions. -/
namespace Go.Proofs.YtaplecncnkkigaaDoor
set_option linter.unusedVariables false
open Go.RowKit
attribute [local go_sem] ba_get ByteArray.mk_append_mk

/-- W grew out of w; each block of L is newer than w, and lies in W as L says; no two are the same -/
structure Live (w W : World) (L : List (Nat × Nat × Array Value)) : Prop where
  b : Below w.heap.size w W
  l : ∀ x ∈ L, w.heap.size ≤ x.1 ∧ Blk W x.1 x.2.1 x.2.2
  d : L.Pairwise fun x y => x.1 ≠ y.1
section
variable {w W W' : World} {L : List (Nat × Nat × Array Value)} {i g t : Nat} {cs cs' : Array Value}
theorem Live.start (w : World) : Live w w [] := ⟨Below.refl _ _, by simp, List.Pairwise.nil⟩
theorem Live.blk (h : Live w W L) (i : Nat) (hi : L[i]? = some (g, t, cs)) : Blk W g t cs := (h.l _ (List.mem_of_getElem? hi)).2
theorem Live.own (h : Live w W L) (i : Nat) (hi : L[i]? = some (g, t, cs)) : w.heap.size ≤ g := (h.l _ (List.mem_of_getElem? hi)).1
theorem Live.lt (h : Live w W L) (i : Nat) (hi : L[i]? = some (g, t, cs)) : g < W.heap.size := (h.blk i hi).lt
theorem Live.cell (h : Live w W L) (i k : Nat) {v : Value} (hi : L[i]? = some (g, t, cs)) (hk : cs[k]? = some v) : W.cell? ⟨g, k, none⟩ = some v := ((h.blk i hi).cell k).trans hk
theorem Live.frozen (h : Live w W L) (i k : Nat) (hi : L[i]? = some (g, t, cs)) : W.frozen? ⟨g, k, none⟩ = false := (h.blk i hi).frozen k
theorem Live.below (h : Live w W L) (hb : Below W.heap.size W W') : Live w W' L :=
  ⟨h.b.trans (hb.mono h.b.size), fun x hx => ⟨(h.l x hx).1, (h.l x hx).2.below hb (h.l x hx).2.lt⟩, h.d⟩
theorem Live.alloc (h : Live w W L) (cs : Array Value) (t : Nat) : Live w (W.alloc (.cells cs t)) ((W.heap.size, t, cs) :: L) :=
  ⟨h.b.alloc h.b.size _, by
    intro x hx
    rcases List.mem_cons.1 hx with rfl | hx
    · exact ⟨h.b.size, Blk.new _ _ _⟩
    · exact ⟨(h.l x hx).1, (h.l x hx).2.alloc _⟩, by
    refine List.pairwise_cons.2 ⟨fun x hx e => ?_, h.d⟩
    have := (h.l x hx).2.lt
    have e' : W.heap.size = x.1 := e
    omega⟩
theorem Live.drop (h : Live w W L) (k : Nat) : Live w W (L.drop k) :=
  ⟨h.b, fun x hx => h.l x (List.mem_of_mem_drop hx), h.d.sublist (List.drop_sublist _ _)⟩
theorem Live.erase (h : Live w W L) (k : Nat) : Live w W (L.eraseIdx k) :=
  ⟨h.b, fun x hx => h.l x (List.mem_of_mem_eraseIdx hx), h.d.sublist (List.eraseIdx_sublist _ _)⟩
theorem pairwise_set_ {L : List (Nat × Nat × Array Value)} (d : L.Pairwise fun x y => x.1 ≠ y.1) (i : Nat) (hi : L[i]? = some (g, t, cs)) : (L.set i (g, t, cs')).Pairwise fun x y => x.1 ≠ y.1 := by
  have e : (L.set i (g, t, cs')).map (·.1) = L.map (·.1) := by
    rw [List.map_set]
    apply List.ext_getElem?
    intro j
    rw [List.getElem?_set]
    split
    · rename_i hj
      subst hj
      obtain ⟨hl, he⟩ := List.getElem?_eq_some_iff.1 hi
      simp [hl, he]
    · rfl
  have h1 : (L.map (·.1)).Pairwise (· ≠ ·) := List.pairwise_map.2 d
  rw [← e] at h1
  exact List.pairwise_map.1 h1
theorem Live.grown (h : Live w W L) (i : Nat) (hi : L[i]? = some (g, t, cs)) (hg : W.grownBy W' (some g)) (hb : Blk W' g t cs') : Live w W' (L.set i (g, t, cs')) := by
  have hgo := h.own i hi
  refine ⟨h.b.grown hg h.b.size (fun k e => by injection e with e; subst e; exact hgo), fun x hx => ?_, pairwise_set_ h.d i hi⟩
  obtain ⟨j, hj⟩ := List.getElem?_of_mem hx
  rw [List.getElem?_set] at hj
  split at hj
  · rename_i e
    split at hj
    · injection hj with hj
      subst hj
      exact ⟨hgo, hb⟩
    · cases hj
  · rename_i e
    have hxL := List.mem_of_getElem? hj
    refine ⟨(h.l x hxL).1, (h.l x hxL).2.grown hg ?_⟩
    intro e2
    injection e2 with e2
    have hp := h.d
    rw [List.pairwise_iff_getElem] at hp
    obtain ⟨h1, h2⟩ := List.getElem?_eq_some_iff.1 hi
    obtain ⟨h3, h4⟩ := List.getElem?_eq_some_iff.1 hj
    rcases Nat.lt_or_gt_of_ne e with hlt | hlt
    · have := hp i j h1 h3 hlt
      rw [h2, h4] at this
      exact this e2.symm
    · have := hp j i h3 h1 hlt
      rw [h2, h4] at this
      exact this e2
/-- a block that is not in the list grew -/
theorem Live.apart (h : Live w W L) {row : Option Nat} (hg : W.grownBy W' row) (hr : ∀ k, row = some k → w.heap.size ≤ k ∧ ∀ x ∈ L, x.1 ≠ k) : Live w W' L :=
  ⟨h.b.grown hg h.b.size (fun k e => (hr k e).1), fun x hx => ⟨(h.l x hx).1, (h.l x hx).2.grown hg (fun e => (hr _ e.symm).2 x hx rfl)⟩, h.d⟩
theorem Live.set (h : Live w W L) (i k : Nat) (u : Value) (hi : L[i]? = some (g, t, cs)) : Live w (W.setCell ⟨g, k, none⟩ u) (L.set i (g, t, cs.setIfInBounds k u)) :=
  h.grown i hi ⟨rfl, rfl, rfl, by simp [World.setCell], fun j hj hne => Below.heap_setCell _ _ _ _ (fun e => hne (by rw [e]))⟩ ((h.blk i hi).set_ k u)
/-- a row that is no block of the list (its members are of another type) grew -/
theorem Live.push {base e size n : Nat} {v : Value} {xs : List Value} (h : Live w W L) (own : W.ownsRow base e size v n xs) (hbase : w.heap.size ≤ base) (hne : ∀ x ∈ L, e ≠ x.2.1) (hg : W.grownBy W' v.ownBlock) : Live w W' L :=
  h.apart hg fun k hk => ⟨Nat.le_trans hbase (own.lt k hk).1, fun x hx he => own_blk_ne own (h.l x hx).2 (hne x hx) (by rw [he]; exact hk)⟩
theorem Live.hp {base e size n : Nat} {v : Value} {xs : List Value} (h : Hid (Live w W L)) (own : W.ownsRow base e size v n xs) (hbase : w.heap.size ≤ base) (hne : ∀ x ∈ L, e ≠ x.2.1) (hg : W.grownBy W' v.ownBlock) : Hid (Live w W' L) := Lib.hid (h.out.push own hbase hne hg)
theorem Live.hb (h : Hid (Live w W L)) (hb : Below W.heap.size W W') : Hid (Live w W' L) := Lib.hid (h.out.below hb)
theorem Live.hbd (h : Hid (Live w W L)) (hb : Below W.drew.heap.size W.drew W') : Hid (Live w W' L) := Lib.hid (h.out.below ⟨hb.os, hb.tape, hb.output, hb.size, hb.block⟩)
theorem Live.ha (h : Hid (Live w W L)) (cs : Array Value) (t : Nat) : Hid (Live w (W.alloc (.cells cs t)) ((W.heap.size, t, cs) :: L)) := Lib.hid (h.out.alloc cs t)
theorem Live.hs (h : Hid (Live w W L)) (i k : Nat) (u : Value) (hi : L[i]? = some (g, t, cs)) : Hid (Live w (W.setCell ⟨g, k, none⟩ u) (L.set i (g, t, cs.setIfInBounds k u))) := Lib.hid (h.out.set i k u hi)
theorem Live.hg (h : Hid (Live w W L)) (i : Nat) (hi : L[i]? = some (g, t, cs)) (hg : W.grownBy W' (some g)) (hb : Blk W' g t cs') : Hid (Live w W' (L.set i (g, t, cs'))) := Lib.hid (h.out.grown i hi hg hb)
theorem Live.drew (h : Live w W L) (n : Nat) : Live w (W.drewN n) L := ⟨⟨h.b.os, h.b.tape, h.b.output, h.b.size, h.b.block⟩, h.l, h.d⟩
end
open Go.Instr
theorem join_run (a b : List UInt8) (h : a.length + b.length ≤ 9223372036854775000) (w : World) : (binOp .add 9 (.string ⟨a.toArray⟩) (.string ⟨b.toArray⟩)).run Tryd.prog w = .ok (.string ⟨(a ++ b).toArray⟩) w := by
  have hs : a.length + b.length ≤ 9223372036854775807 := by omega
  go_simp
theorem conv1b {w : World} {g : Nat} {x : Int} (h : Blk w g 5 #[.int .u8 x]) (h0 : 0 ≤ x) (h1 : x < 256) : (convert 61 9 (.slice (some ⟨g, 0, none⟩) 1 1)).run Tryd.prog w = .ok (.string ⟨#[UInt8.ofNat x.toNat]⟩) w := by
  refine conv_reads _ (g + 1) _ _ _ [UInt8.ofNat x.toNat] ⟨rfl, fun _ => ⟨_, rfl, by simp, fun j u hu => ?_⟩⟩
  have ha : (⟨g, 0, none⟩ : Addr).add j = ⟨g, j, none⟩ := by unfold Addr.add; split <;> simp_all
  rw [ha, h.cell]
  simp only [bvals, List.map, u8_ofInt x h0 h1] at hu
  simpa using hu
theorem conv2b {w : World} {g : Nat} {x y : Int} (h : Blk w g 5 #[.int .u8 x, .int .u8 y]) (h0 : 0 ≤ x) (h1 : x < 256) (h2 : 0 ≤ y) (h3 : y < 256) : (convert 61 9 (.slice (some ⟨g, 0, none⟩) 2 2)).run Tryd.prog w = .ok (.string ⟨#[UInt8.ofNat x.toNat, UInt8.ofNat y.toNat]⟩) w := by
  refine conv_reads _ (g + 1) _ _ _ [UInt8.ofNat x.toNat, UInt8.ofNat y.toNat] ⟨rfl, fun _ => ⟨_, rfl, by simp, fun j u hu => ?_⟩⟩
  have ha : (⟨g, 0, none⟩ : Addr).add j = ⟨g, j, none⟩ := by unfold Addr.add; split <;> simp_all
  rw [ha, h.cell]
  simp only [bvals, List.map, u8_ofInt x h0 h1, u8_ofInt y h2 h3] at hu
  simpa using hu
/-- a post: what is returned; memory grew -/
def Ret (w : World) (v : Value) (e : Ending) (w' : World) : Prop := e = .returned v ∧ Below w.heap.size w w'
theorem step_append_row {P : Program} (wr : World) (e : TypeId) (news : List Value) {ops : Array Oper} {o : Oper} {a : Act} {K : Act → World → Prop} {Q : Exit → Act → World → Prop} {E : Prop} (hgd : o.guard = none) (s x : Operand) (t : TypeId)
    (ho : o.op = .call { callee := .builtin .append, args := #[s, x], argTypes := #[t, t] })
    (base size bytes : Nat) (z : Value) (hinfo : (P.info? e).map (fun i => (i.zero, i.size, i.bytes)) = some (some z, size, bytes)) (ht : P.underlying t = some (.slice e)) (hzs : z.cells.size = size) (hsz : 0 < size)
    (v : Value) (n : Nat) (xs : List Value) (hs : a.eval s = v) (hown : wr.ownsRow base e size v n xs)
    (m c : Nat) (hx : a.eval x = .slice (some ⟨wr.heap.size, 0, none⟩) m c) (hl : news.length = m * size) (h1 : ∀ u ∈ news, u.oneCell' = true)
    (h63 : n + m ≤ maxLen) (hbytes : (n + m) * bytes ≤ 140737488355328) (B : Nat) (w0 : World) (hb : Below B w0 wr) (hB : B ≤ base) (hbase : base ≤ wr.heap.size)
    (h : ∀ v' w', w'.ownsRow base e size v' (n + m) (xs ++ news) → Below B w0 w' → wr.grownBy w' v.ownBlock → (v'.ownBlock = v.ownBlock ∨ ∃ g, v'.ownBlock = some g ∧ wr.heap.size ≤ g) → wr.heap.size < w'.heap.size → K (a.put o.dst v') w') :
    if Region.wanted o (yielded ops a.tmps) = true then Oper.wp P o a (wr.alloc (.cells news.toArray e)) K Q else E := by
  have hw : Region.wanted o (yielded ops a.tmps) = true := by simp [Region.wanted, hgd]
  rw [if_pos hw]
  exact wp_append_new wr e news s x t ho base size bytes z hinfo ht hzs hsz v n xs hs hown m c hx hl h1 h63 hbytes B w0 hb hB hbase fun v' w' h2 h3 h4 h5 h6 => h v' w' h2 h3 h4 h5 h6
end Go.Proofs.YtaplecncnkkigaaDoor

/- The document's layer 17 (receipt): Written, Encode. No conditions. -/
namespace Go.Proofs.YtaplecncnkkigaaDoor
set_option linter.unusedVariables false
open Go.RowKit Go.Instr
attribute [local go_sem] ba_get ByteArray.mk_append_mk

set_option maxRecDepth 100000 in
set_option maxHeartbeats 1000000 in
theorem ref17_Written (c q : Nat) (f : List UInt8) (hc : c ≤ 1000) (hf : f.length ≤ 6) (hq : q ≤ 1099511627776) (w : World) :
    Calls Tryd.prog 73 #[.agg #[.int .i64 c, .string ⟨f.toArray⟩, .int .i64 q]] w (Ret w (.string ⟨(numW c ++ (textW f ++ numW q)).toArray⟩)) := by
  have HP : Hid (∀ w', Below w.heap.size w w' → Ret w (.string ⟨(numW c ++ (textW f ++ numW q)).toArray⟩) (Ending.returned (.string ⟨(numW c ++ (textW f ++ numW q)).toArray⟩)) w') := Lib.hid (fun w' h2 => ⟨rfl, h2⟩)
  generalize Ret w (.string ⟨(numW c ++ (textW f ++ numW q)).toArray⟩) = P at HP ⊢
  have HC : Hid (∀ W, Calls Tryd.prog 97 #[.int .i64 (c : Int)] W (Ret W (.string ⟨(numW c).toArray⟩))) := Lib.hid (fun W => ref02_Number c (by omega) W)
  have HQ : Hid (∀ W, Calls Tryd.prog 97 #[.int .i64 (q : Int)] W (Ret W (.string ⟨(numW q).toArray⟩))) := Lib.hid (fun W => ref02_Number q (by omega) W)
  have HT : Hid (∀ W, Calls Tryd.prog 98 #[.string ⟨f.toArray⟩] W (Ret W (.string ⟨(textW f).toArray⟩))) := Lib.hid (fun W => ref02_Text f (by omega) W)
  have l1 := numW_len c (by omega)
  have l2 : (textW f).length ≤ 100 := by rw [textW, List.length_append]; have := numW_len f.length (by omega); omega
  have l3 := numW_len q (by omega)
  clear hc hf hq
  generalize numW c = X at *
  generalize textW f = Y at *
  generalize numW q = Z at *
  have n1 : (9223372036854775807 < X.length + Y.length) = False := by simp; omega
  have n2 : (9223372036854775807 < X.length + Y.length + Z.length) = False := by simp; omega
  have m1 : X.length + Y.length ≤ 9223372036854775807 := by omega
  have m2 : X.length + Y.length + Z.length ≤ 9223372036854775807 := by omega
  have m3 : X.length + (Y.length + Z.length) ≤ 9223372036854775807 := by omega
  clear l1 l2 l3
  go_enter Tryd.func73, Tryd.ntmps73
  go_upto_region 1 with fail
  have F := Live.ha (Lib.hid (Live.start w)) #[.int .i64 c, .string ⟨f.toArray⟩, .int .i64 q] 71
  generalize w.alloc (.cells #[.int .i64 c, .string ⟨f.toArray⟩, .int .i64 q] 71) = W1 at F ⊢
  have k0_0 : W1.cell? ⟨w.heap.size, 0, none⟩ = some (.int .i64 (c : Int)) := F.out.cell 0 0 rfl rfl; have k0_1 : W1.cell? ⟨w.heap.size, 1, none⟩ = some (.string ⟨f.toArray⟩) := F.out.cell 0 1 rfl rfl; have k0_2 : W1.cell? ⟨w.heap.size, 2, none⟩ = some (.int .i64 (q : Int)) := F.out.cell 0 2 rfl rfl
  go_region_held3 (fun w' => w'.cell? ⟨w.heap.size, 0, none⟩ = some (.int .i64 (c : Int)) ∧ w'.cell? ⟨w.heap.size, 1, none⟩ = some (.string ⟨f.toArray⟩) ∧ w'.cell? ⟨w.heap.size, 2, none⟩ = some (.int .i64 (q : Int))) (first | go_keep | (refine ⟨?_, ?_, ?_⟩ <;> assumption)) (first | (go_at_call 97; ((with_reducible refine (HC.out _).mono ?_); (rintro e w1 ⟨rfl, hb⟩; (first | have F := Live.hb F hb | have F := Live.hbd F hb); clear hb; have k0_0 : w1.cell? ⟨w.heap.size, 0, none⟩ = some (.int .i64 (c : Int)) := F.out.cell 0 0 rfl rfl; have k0_1 : w1.cell? ⟨w.heap.size, 1, none⟩ = some (.string ⟨f.toArray⟩) := F.out.cell 0 1 rfl rfl; have k0_2 : w1.cell? ⟨w.heap.size, 2, none⟩ = some (.int .i64 (q : Int)) := F.out.cell 0 2 rfl rfl))) | (go_at_call 97; ((with_reducible refine (HQ.out _).mono ?_); (rintro e w1 ⟨rfl, hb⟩; (first | have F := Live.hb F hb | have F := Live.hbd F hb); clear hb; have k0_0 : w1.cell? ⟨w.heap.size, 0, none⟩ = some (.int .i64 (c : Int)) := F.out.cell 0 0 rfl rfl; have k0_1 : w1.cell? ⟨w.heap.size, 1, none⟩ = some (.string ⟨f.toArray⟩) := F.out.cell 0 1 rfl rfl; have k0_2 : w1.cell? ⟨w.heap.size, 2, none⟩ = some (.int .i64 (q : Int)) := F.out.cell 0 2 rfl rfl))) | (go_at_call 98; ((with_reducible refine (HT.out _).mono ?_); (rintro e w1 ⟨rfl, hb⟩; (first | have F := Live.hb F hb | have F := Live.hbd F hb); clear hb; have k0_0 : w1.cell? ⟨w.heap.size, 0, none⟩ = some (.int .i64 (c : Int)) := F.out.cell 0 0 rfl rfl; have k0_1 : w1.cell? ⟨w.heap.size, 1, none⟩ = some (.string ⟨f.toArray⟩) := F.out.cell 0 1 rfl rfl; have k0_2 : w1.cell? ⟨w.heap.size, 2, none⟩ = some (.int .i64 (q : Int)) := F.out.cell 0 2 rfl rfl))))
  all_goals go_wp2
  all_goals exact HP.out _ F.out.b

set_option maxRecDepth 100000 in
set_option maxHeartbeats 1000000 in
theorem ref17_Encode (c : Int) (f : List UInt8) (q : Int) (hf : f.length ≤ 9223372036854775807) (w : World) :
    Calls Tryd.prog 41 #[rcV c f q] w (REncEnd w (encW c f q)) := by
  have HP : Hid (∀ r w', encW c f q = r → Below w.heap.size w w' → REncEnd w (encW c f q) (.returned (.tuple #[.string ⟨r.1.toArray⟩, .int .i64 (r.2 : Int)])) w') := Lib.hid (fun r w' h h2 => by rw [h]; exact ⟨rfl, h2⟩)
  generalize REncEnd w (encW c f q) = P at HP ⊢
  have HF := Lib.hid (fun W => ref17_Fine c f q hf W)
  by_cases hk : rcOk c f q
  · have HE : Hid (encW c f q = (numW c.toNat ++ (textW f ++ numW q.toNat), 0)) := Lib.hid (by rw [encW, if_pos hk, List.append_assoc])
    have HW := Lib.hid (ref17_Written c.toNat q.toNat f (by have := hk.2.1; omega) hk.2.2.2.1 (by have := hk.2.2.2.2.2; omega))
    rw [Int.toNat_of_nonneg hk.1, Int.toNat_of_nonneg hk.2.2.2.2.1] at HW
    rw [show decide (rcOk c f q) = true from decide_eq_true hk] at HF
    clear hk hf
    unfold rcV at *
    generalize numW c.toNat ++ (textW f ++ numW q.toNat) = bytes at HE HW
    go_enter Tryd.func41, Tryd.ntmps41
    go_upto_region 1 with fail
    have F := Live.ha (Lib.hid (Live.start w)) #[.int .i64 c, .string ⟨f.toArray⟩, .int .i64 q] 71
    generalize w.alloc (.cells #[.int .i64 c, .string ⟨f.toArray⟩, .int .i64 q] 71) = W1 at F ⊢
    have k0_0 : W1.cell? ⟨w.heap.size, 0, none⟩ = some (.int .i64 c) := F.out.cell 0 0 rfl rfl; have k0_1 : W1.cell? ⟨w.heap.size, 1, none⟩ = some (.string ⟨f.toArray⟩) := F.out.cell 0 1 rfl rfl; have k0_2 : W1.cell? ⟨w.heap.size, 2, none⟩ = some (.int .i64 q) := F.out.cell 0 2 rfl rfl
    go_wp2_with fail
    refine (HF.out _).mono ?_
    rintro e w1 ⟨rfl, hb⟩
    clear k0_0 k0_1 k0_2
    (first | have F := Live.hb F hb | have F := Live.hbd F hb); clear hb
    have k0_0 : w1.cell? ⟨w.heap.size, 0, none⟩ = some (.int .i64 c) := F.out.cell 0 0 rfl rfl; have k0_1 : w1.cell? ⟨w.heap.size, 1, none⟩ = some (.string ⟨f.toArray⟩) := F.out.cell 0 1 rfl rfl; have k0_2 : w1.cell? ⟨w.heap.size, 2, none⟩ = some (.int .i64 q) := F.out.cell 0 2 rfl rfl
    go_wp2_with fail
    refine (HW.out _).mono ?_
    rintro e w2 ⟨rfl, hb⟩
    clear k0_0 k0_1 k0_2
    (first | have F := Live.hb F hb | have F := Live.hbd F hb); clear hb
    go_wp2
    exact HP.out _ _ HE.out F.out.b
  · have HE : Hid (encW c f q = ([], 3)) := Lib.hid (by rw [encW, if_neg hk])
    rw [show decide (rcOk c f q) = false from decide_eq_false hk] at HF
    clear hk hf
    unfold rcV at *
    go_enter Tryd.func41, Tryd.ntmps41
    go_upto_region 1 with fail
    have F := Live.ha (Lib.hid (Live.start w)) #[.int .i64 c, .string ⟨f.toArray⟩, .int .i64 q] 71
    generalize w.alloc (.cells #[.int .i64 c, .string ⟨f.toArray⟩, .int .i64 q] 71) = W1 at F ⊢
    have k0_0 : W1.cell? ⟨w.heap.size, 0, none⟩ = some (.int .i64 c) := F.out.cell 0 0 rfl rfl; have k0_1 : W1.cell? ⟨w.heap.size, 1, none⟩ = some (.string ⟨f.toArray⟩) := F.out.cell 0 1 rfl rfl; have k0_2 : W1.cell? ⟨w.heap.size, 2, none⟩ = some (.int .i64 q) := F.out.cell 0 2 rfl rfl
    go_wp2_with fail
    refine (HF.out _).mono ?_
    rintro e w1 ⟨rfl, hb⟩
    clear k0_0 k0_1 k0_2
    (first | have F := Live.hb F hb | have F := Live.hbd F hb); clear hb
    have k0_0 : w1.cell? ⟨w.heap.size, 0, none⟩ = some (.int .i64 c) := F.out.cell 0 0 rfl rfl; have k0_1 : w1.cell? ⟨w.heap.size, 1, none⟩ = some (.string ⟨f.toArray⟩) := F.out.cell 0 1 rfl rfl; have k0_2 : w1.cell? ⟨w.heap.size, 2, none⟩ = some (.int .i64 q) := F.out.cell 0 2 rfl rfl
    go_wp2
    exact HP.out _ _ HE.out F.out.b
end Go.Proofs.YtaplecncnkkigaaDoor

/- Plain functions for layer 1 (nibble): paths of half bytes, in Lean, with no program in sight. No conditions. -/
namespace Go.Proofs.YtaplecncnkkigaaDoor
namespace Nib
def of (l : List UInt8) : List UInt8 := l.flatMap fun b => [b / 16, b % 16]
theorem of_snoc (l : List UInt8) (b : UInt8) : of (l ++ [b]) = of l ++ [b / 16, b % 16] := by simp [of]
theorem of_length (l : List UInt8) : (of l).length = 2 * l.length := by
  induction l with
  | nil => rfl
  | cons b l ih =>
    have : of (b :: l) = [b / 16, b % 16] ++ of l := by simp [of]
    rw [this, List.length_append, ih]; simp; omega
def fit (l : List UInt8) : Bool := l.all fun b => decide (b ≤ 15)
def joined : List UInt8 → List UInt8
  | a :: b :: l => (a * 16 + b) :: joined l
  | _ => []
def common : List UInt8 → List UInt8 → Nat
  | a :: x, b :: y => if a = b then common x y + 1 else 0
  | _, _ => 0
theorem common_le (x : List UInt8) : ∀ y, common x y ≤ x.length ∧ common x y ≤ y.length := by
  induction x with
  | nil => intro y; simp [common]
  | cons a x ih =>
    intro y
    cases y with
    | nil => simp [common]
    | cons b y =>
      unfold common
      split
      · have := ih y; simp; omega
      · simp
theorem common_take (x : List UInt8) : ∀ (y : List UInt8) (n : Nat), n ≤ common x y ↔ (n ≤ x.length ∧ n ≤ y.length ∧ x.take n = y.take n) := by
  induction x with
  | nil =>
    intro y n
    cases n with
    | zero => simp
    | succ n => simp [common]
  | cons a x ih =>
    intro y n
    cases y with
    | nil =>
      cases n with
      | zero => simp
      | succ n => simp [common]
    | cons b y =>
      cases n with
      | zero => simp
      | succ n =>
        unfold common
        by_cases hab : a = b
        · subst hab
          have := ih y n
          simp only [if_pos, List.length_cons, List.take_succ_cons, List.cons.injEq, true_and, Nat.add_le_add_iff_right]
          exact this
        · simp [hab]
/-- the loop of Common goes on just as long as it should -/
theorem common_step {x y : List UInt8} {n : Nat} (h : n ≤ common x y) (hx : n < x.length) (hy : n < y.length) : (n + 1 ≤ common x y) ↔ x[n] = y[n] := by
  rw [common_take] at h ⊢
  rw [List.take_succ_eq_append_getElem hx, List.take_succ_eq_append_getElem hy, h.2.2]
  constructor
  · intro e; simpa using List.append_cancel_left e.2.2
  · intro e; exact ⟨hx, hy, by rw [e]⟩

theorem joined_length (l : List UInt8) : (joined l).length = l.length / 2 := by
  fun_induction joined l with
  | case1 a b l ih => simp [ih]; omega
  | case2 l h =>
    match l, h with
    | [], _ => rfl
    | [a], _ => simp
    | a :: b :: l, h => exact absurd rfl (h a b l)
theorem joined_cons (a b : UInt8) (l : List UInt8) : joined (a :: b :: l) = (a * 16 + b) :: joined l := rfl
theorem joined_take (l : List UInt8) : ∀ i, (h : 2 * i + 1 < l.length) → joined (l.take (2 * (i + 1))) = joined (l.take (2 * i)) ++ [l[2 * i] * 16 + l[2 * i + 1]] := by
  fun_induction joined l with
  | case1 a b l ih =>
    intro i h
    cases i with
    | zero => simp [joined]
    | succ i =>
      have := ih i (by simp at h; omega)
      have e1 : 2 * (i + 1 + 1) = 2 * (i + 1) + 2 := by omega
      have e2 : 2 * (i + 1) = 2 * i + 2 := by omega
      rw [e1, List.take_succ_cons, List.take_succ_cons, joined_cons, this]
      simp only [e2, List.take_succ_cons, joined_cons, List.cons_append]
      simp [show 2 * i + 2 + 1 = (2 * i + 1) + 1 + 1 from by omega]
  | case2 l h =>
    intro i hl
    match l, h with
    | [], _ => simp at hl
    | [a], _ => simp at hl
    | a :: b :: l, h => exact absurd rfl (h a b l)

theorem joined_half (l : List UInt8) : joined (l.take (2 * (l.length / 2))) = joined l := by
  fun_induction joined l with
  | case1 a b l ih =>
    have e : 2 * ((a :: b :: l).length / 2) = 2 * (l.length / 2) + 1 + 1 := by simp; omega
    rw [e, List.take_succ_cons, List.take_succ_cons, joined_cons, ih]
  | case2 l h =>
    match l, h with
    | [], _ => rfl
    | [a], _ => simp [joined]
    | a :: b :: l, h => exact absurd rfl (h a b l)
theorem fit_take (l : List UInt8) (i : Nat) (h : i < l.length) : fit (l.take (i + 1)) = (fit (l.take i) && decide (l[i] ≤ 15)) := by
  unfold fit
  rw [List.take_succ_eq_append_getElem h, List.all_append]
  simp
theorem fit_false {l : List UInt8} {i : Nat} (h : i < l.length) (hb : ¬ l[i] ≤ 15) : fit l = false := by
  unfold fit
  rw [List.all_eq_false]
  exact ⟨l[i], List.getElem_mem h, by simpa using hb⟩
/-- a key's path's key, and its code -/
def key (l : List UInt8) : List UInt8 × Nat := if fit l then (if l.length % 2 = 1 then ([], 4) else (joined l, 0)) else ([], 3)
def side (x y : List UInt8) : Int :=
  if common x y = y.length then 1 else if common x y = x.length then 0 else if x.getD (common x y) 0 < y.getD (common x y) 0 then -1 else 1
/-- how two texts stand to one another, by how far they are the same -/
theorem blt_common (x : List UInt8) : ∀ y, Op.bytesLess x y = if common x y = y.length then false else if common x y = x.length then true else decide (x.getD (common x y) 0 < y.getD (common x y) 0) := by
  induction x with
  | nil =>
    intro y
    cases y with
    | nil => simp [Op.bytesLess, common]
    | cons b y => simp [Op.bytesLess, common]
  | cons a x ih =>
    intro y
    cases y with
    | nil => simp [Op.bytesLess, common]
    | cons b y =>
      unfold Op.bytesLess common
      by_cases hab : a = b
      · subst hab
        simp [ih y, UInt8.lt_irrefl]
      · simp [hab]
theorem side_eq (x y : List UInt8) : side x y = if Op.bytesLess x y = false then 1 else if x.length ≤ y.length ∧ y.take x.length = x then 0 else -1 := by
  have hcl := common_le x y
  rw [blt_common]
  unfold side
  by_cases h1 : common x y = y.length
  · simp [h1]
  · by_cases h2 : common x y = x.length
    · have h3 := (common_take x y x.length).1 (by omega)
      simp only [if_neg h1, if_pos h2]
      simp [show x.length ≤ y.length from h3.2.1, ← h3.2.2]
    · simp only [if_neg h1, if_neg h2]
      by_cases h4 : x.getD (common x y) 0 < y.getD (common x y) 0
      · rw [if_pos h4, decide_eq_true h4, if_neg (by simp), if_neg]
        rintro ⟨h5, h6⟩
        have := (common_take x y x.length).2 ⟨Nat.le_refl _, h5, by rw [h6]; simp⟩
        omega
      · rw [if_neg h4, decide_eq_false h4, if_pos rfl]
def packed (l : List UInt8) (leaf : Bool) : List UInt8 :=
  match l, l.length % 2 with
  | a :: r, 1 => (if leaf then 48 + a else 16 + a) :: joined r
  | _, _ => (if leaf then 32 else 0) :: joined l
def pack (l : List UInt8) (leaf : Bool) : List UInt8 × Nat := if fit l then (packed l leaf, 0) else ([], 3)
def unpack : List UInt8 → List UInt8 × Bool × Nat
  | [] => ([], false, 3)
  | b :: r => if 3 < b.toNat / 16 ∨ (b.toNat / 16 % 2 = 0 ∧ b.toNat % 16 ≠ 0) then ([], false, 3) else ((if b.toNat / 16 % 2 = 1 then (b % 16) :: of r else of r), decide (2 ≤ b.toNat / 16), 0)
theorem unpack_cons (b : UInt8) (r : List UInt8) : unpack (b :: r) = if 3 < b.toNat / 16 ∨ (b.toNat / 16 % 2 = 0 ∧ b.toNat % 16 ≠ 0) then ([], false, 3) else ((if b.toNat / 16 % 2 = 1 then (b % 16) :: of r else of r), decide (2 ≤ b.toNat / 16), 0) := rfl
theorem packed_odd {a : UInt8} {r : List UInt8} {leaf : Bool} (h : (a :: r).length % 2 = 1) : packed (a :: r) leaf = (if leaf then 48 + a else 16 + a) :: joined r := by
  unfold packed; rw [h]; rfl
theorem packed_even {l : List UInt8} {leaf : Bool} (h : l.length % 2 = 0) : packed l leaf = (if leaf then 32 else 0) :: joined l := by
  unfold packed; rw [h]; cases l <;> rfl
theorem fit_of (l : List UInt8) : fit (of l) = true := by
  unfold fit of
  rw [List.all_eq_true]
  intro x hx
  simp only [List.mem_flatMap, List.mem_cons, List.not_mem_nil, or_false] at hx
  obtain ⟨b, _, rfl | rfl⟩ := hx
  · have := b.toNat_lt
    simp [UInt8.le_iff_toNat_le]; omega
  · simp [UInt8.le_iff_toNat_le]; omega
theorem half_back (b : UInt8) : b / 16 * 16 + b % 16 = b := by
  apply UInt8.toNat_inj.1
  have := b.toNat_lt
  simp [UInt8.toNat_add, UInt8.toNat_mul]
  omega
theorem joined_of (l : List UInt8) : joined (of l) = l := by
  induction l with
  | nil => rfl
  | cons b l ih =>
    have e : of (b :: l) = b / 16 :: b % 16 :: of l := by simp [of]
    rw [e, joined_cons, ih, half_back]
theorem key_of (l : List UInt8) : key (of l) = (l, 0) := by
  unfold key
  rw [if_pos (fit_of l), if_neg (by rw [of_length]; omega), joined_of]
theorem pair_back (a b : UInt8) (ha : a ≤ 15) (hb : b ≤ 15) : (a * 16 + b) / 16 = a ∧ (a * 16 + b) % 16 = b := by
  rw [UInt8.le_iff_toNat_le] at ha hb
  simp at ha hb
  constructor <;> (apply UInt8.toNat_inj.1; simp [UInt8.toNat_add, UInt8.toNat_mul]; omega)
theorem of_joined (l : List UInt8) (hf : fit l = true) (he : l.length % 2 = 0) : of (joined l) = l := by
  fun_induction joined l with
  | case1 a b l ih =>
    unfold fit at hf
    simp only [List.all_cons, Bool.and_eq_true, decide_eq_true_eq] at hf
    obtain ⟨h1, h2⟩ := pair_back a b hf.1 hf.2.1
    have e : of ((a * 16 + b) :: joined l) = (a * 16 + b) / 16 :: (a * 16 + b) % 16 :: of (joined l) := by simp [of]
    rw [e, h1, h2, ih (by unfold fit; exact hf.2.2) (by simp at he; omega)]
  | case2 l h =>
    match l, h with
    | [], _ => rfl
    | [a], _ => simp at he
    | a :: b :: l, h => exact absurd rfl (h a b l)
theorem packed_length (l : List UInt8) (leaf : Bool) : (packed l leaf).length = l.length / 2 + 1 := by
  by_cases h : l.length % 2 = 1
  · cases l with
    | nil => simp at h
    | cons a r =>
      rw [packed_odd h, List.length_cons, joined_length]
      simp at h ⊢; omega
  · rw [packed_even (by omega), List.length_cons, joined_length]
theorem fit_cons {a : UInt8} {r : List UInt8} (h : fit (a :: r) = true) : a ≤ 15 ∧ fit r = true := by
  unfold fit at h ⊢
  simpa using h
/-- what was packed is told as it was -/
theorem unpack_packed (l : List UInt8) (leaf : Bool) (hf : fit l = true) : unpack (packed l leaf) = (l, leaf, 0) := by
  by_cases h : l.length % 2 = 1
  · cases l with
    | nil => simp at h
    | cons a r =>
      obtain ⟨ha, hr⟩ := fit_cons hf
      rw [packed_odd h, unpack_cons]
      rw [UInt8.le_iff_toNat_le] at ha
      simp at ha h
      have he : r.length % 2 = 0 := by omega
      cases leaf
      · have e : (16 + a).toNat = 16 + a.toNat := by rw [UInt8.toNat_add]; simp; omega
        have e2 : (16 + a) % 16 = a := by apply UInt8.toNat_inj.1; rw [UInt8.toNat_mod, e]; simp; omega
        simp only [Bool.false_eq_true, if_false, e, e2]
        rw [if_neg (by omega), if_pos (by omega), of_joined r hr he, decide_eq_false (by omega)]
      · have e : (48 + a).toNat = 48 + a.toNat := by rw [UInt8.toNat_add]; simp; omega
        have e2 : (48 + a) % 16 = a := by apply UInt8.toNat_inj.1; rw [UInt8.toNat_mod, e]; simp; omega
        simp only [if_true, e, e2]
        rw [if_neg (by omega), if_pos (by omega), of_joined r hr he, decide_eq_true (by omega)]
  · have he : l.length % 2 = 0 := by omega
    rw [packed_even he, unpack_cons, of_joined l hf he]
    cases leaf <;> simp
/-- what is told of bytes is packed as these -/
theorem pack_unpack (s : List UInt8) (h : (unpack s).2.2 = 0) : pack (unpack s).1 (unpack s).2.1 = (s, 0) := by
  cases s with
  | nil => simp [unpack] at h
  | cons b r =>
    have hlt := b.toNat_lt
    rw [unpack_cons] at h ⊢
    by_cases hc : 3 < b.toNat / 16 ∨ (b.toNat / 16 % 2 = 0 ∧ b.toNat % 16 ≠ 0)
    · rw [if_pos hc] at h; simp at h
    · rw [if_neg hc]
      have hb16 : (b % 16 : UInt8) ≤ 15 := by rw [UInt8.le_iff_toNat_le]; simp; omega
      by_cases ho : b.toNat / 16 % 2 = 1
      · simp only [if_pos ho]
        have hl : ((b % 16) :: of r).length % 2 = 1 := by rw [List.length_cons, of_length]; omega
        have hf : fit ((b % 16) :: of r) = true := by
          have := fit_of r
          unfold fit at this ⊢
          simp only [List.all_cons, this, Bool.and_true, decide_eq_true_eq]; exact hb16
        unfold pack
        rw [if_pos hf, packed_odd hl, joined_of]
        congr 2
        by_cases h2 : 2 ≤ b.toNat / 16
        · rw [decide_eq_true h2, if_pos rfl]
          apply UInt8.toNat_inj.1; simp [UInt8.toNat_add]; omega
        · rw [decide_eq_false h2, if_neg (by simp)]
          apply UInt8.toNat_inj.1; simp [UInt8.toNat_add]; omega
      · simp only [if_neg ho]
        unfold pack
        rw [if_pos (fit_of r), packed_even (by rw [of_length]; omega), joined_of]
        congr 2
        by_cases h2 : 2 ≤ b.toNat / 16
        · rw [decide_eq_true h2, if_pos rfl]
          apply UInt8.toNat_inj.1; simp; omega
        · rw [decide_eq_false h2, if_neg (by simp)]
          apply UInt8.toNat_inj.1; simp; omega
theorem unpack_length (s : List UInt8) : (unpack s).1.length ≤ 2 * s.length := by
  cases s with
  | nil => simp [unpack]
  | cons b r =>
    rw [unpack_cons]
    split
    · simp
    · split
      · simp [of_length]; omega
      · simp [of_length]; omega
theorem of_cons (b : UInt8) (l : List UInt8) : of (b :: l) = b / 16 :: b % 16 :: of l := by simp [of]
theorem of_inj {a b : List UInt8} (h : of a = of b) : a = b := by
  have := congrArg joined h
  rwa [joined_of, joined_of] at this
theorem byte_eq {a b : UInt8} (h1 : a / 16 = b / 16) (h2 : a % 16 = b % 16) : a = b := by
  rw [← half_back a, ← half_back b, h1, h2]
theorem common_of (a : List UInt8) : ∀ b, common (of a) (of b) / 2 = common a b ∧ (common a b = a.length → common (of a) (of b) = 2 * a.length) := by
  induction a with
  | nil => intro b; simp [common, of]
  | cons x a ih =>
    intro b
    cases b with
    | nil => simp [common, of]
    | cons y b =>
      rw [of_cons, of_cons]
      by_cases h : x = y
      · subst h
        have := ih b
        simp only [common, if_pos]
        constructor
        · omega
        · intro h2; simp only [List.length_cons] at h2 ⊢; have := this.2 (by omega); omega
      · by_cases h1 : x / 16 = y / 16
        · have h2 : x % 16 ≠ y % 16 := fun e => h (byte_eq h1 e)
          simp [common, h, h1, h2]
        · simp [common, h, h1]
theorem common_of_full (a b : List UInt8) : (common a b = a.length) ↔ (common (of a) (of b) = (of a).length) := by
  have h := common_of a b
  rw [of_length]
  constructor
  · exact h.2
  · intro e; omega
theorem common_symm (a : List UInt8) : ∀ b, common a b = common b a := by
  induction a with
  | nil => intro b; cases b <;> simp [common]
  | cons x a ih =>
    intro b
    cases b with
    | nil => simp [common]
    | cons y b =>
      unfold common
      by_cases h : x = y
      · subst h; simp [ih b]
      · simp [h, Ne.symm h]
theorem blt_of (a : List UInt8) : ∀ b, Op.bytesLess (of a) (of b) = Op.bytesLess a b := by
  induction a with
  | nil =>
    intro b
    cases b with
    | nil => rfl
    | cons y b => simp [of, Op.bytesLess]
  | cons x a ih =>
    intro b
    cases b with
    | nil => simp [of, Op.bytesLess]
    | cons y b =>
      rw [of_cons, of_cons]
      simp only [Op.bytesLess, ih b]
      by_cases h : x = y
      · subst h; simp [UInt8.lt_irrefl]
      · have hx := x.toNat_lt
        have hy := y.toNat_lt
        have hne : x.toNat ≠ y.toNat := fun e => h (UInt8.toNat_inj.1 e)
        rw [Bool.eq_iff_iff]
        simp only [Bool.or_eq_true, Bool.and_eq_true, decide_eq_true_eq, beq_iff_eq, UInt8.lt_iff_toNat_lt, ← UInt8.toNat_inj, UInt8.toNat_div, UInt8.toNat_mod]
        simp only [show (16 : UInt8).toNat = 16 from rfl]
        constructor
        · rintro (h1 | ⟨h1, h2 | ⟨h2, _⟩⟩)
          · left; omega
          · left; omega
          · exfalso; omega
        · rintro (h1 | ⟨h1, _⟩)
          · rcases Nat.lt_or_ge (x.toNat / 16) (y.toNat / 16) with h2 | h2
            · exact .inl h2
            · exact .inr ⟨by omega, .inl (by omega)⟩
          · exact absurd h1 hne
theorem blt_irrefl (x : List UInt8) : Op.bytesLess x x = false := by
  induction x with
  | nil => rfl
  | cons a x ih => simp [Op.bytesLess, UInt8.lt_irrefl, ih]
theorem common_append (x z : List UInt8) : ∀ y, common x y < x.length → common (x ++ z) y = common x y ∧ (x ++ z).getD (common x y) 0 = x.getD (common x y) 0 := by
  induction x with
  | nil => intro y h; simp at h
  | cons a x ih =>
    intro y h
    cases y with
    | nil => simp [common]
    | cons b y =>
      by_cases hab : a = b
      · subst hab
        simp only [common, if_pos, List.cons_append, List.length_cons] at h ⊢
        have := ih y (by omega)
        exact ⟨by rw [this.1], by simpa using this.2⟩
      · simp [common, hab]
/-- 1.2: what begins with a path stands on the side that is told -/
theorem side_below {x y : List UInt8} (z : List UInt8) (h : side x y = -1) : Op.bytesLess (x ++ z) y = true ∧ Op.bytesLess x y = true := by
  have hcl := common_le x y
  unfold side at h
  split at h
  · omega
  · split at h
    · omega
    · rename_i h1 h2
      split at h
      · rename_i h3
        have hc := common_append x z y (by omega)
        constructor
        · rw [blt_common, hc.1, if_neg h1, if_neg (by rw [List.length_append]; omega), hc.2, decide_eq_true h3]
        · rw [blt_common, if_neg h1, if_neg h2, decide_eq_true h3]
      · omega
theorem common_append_le (x z : List UInt8) (y : List UInt8) (h : common x y = y.length) : common (x ++ z) y = y.length := by
  have h1 := (common_take x y y.length).1 (by omega)
  have h2 : y.length ≤ common (x ++ z) y := (common_take (x ++ z) y y.length).2 ⟨by rw [List.length_append]; omega, Nat.le_refl _, by rw [List.take_append_of_le_length h1.1]; exact h1.2.2⟩
  have := common_le (x ++ z) y
  omega
theorem side_above {x y : List UInt8} (z : List UInt8) (h : side x y = 1) : Op.bytesLess (x ++ z) y = false := by
  have hcl := common_le x y
  unfold side at h
  split at h
  · rename_i h1
    rw [blt_common, if_pos (common_append_le x z y h1)]
  · split at h
    · omega
    · rename_i h1 h2
      split at h
      · omega
      · rename_i h3
        have hc := common_append x z y (by omega)
        rw [blt_common, hc.1, if_neg h1, if_neg (by rw [List.length_append]; omega), hc.2, decide_eq_false h3]
theorem side_zero {x y : List UInt8} (h : side x y = 0) : x.length < y.length ∧ y.take x.length = x ∧ Op.bytesLess x y = true := by
  have hcl := common_le x y
  unfold side at h
  split at h
  · omega
  · split at h
    · rename_i h1 h2
      have h3 := (common_take x y x.length).1 (by omega)
      refine ⟨by omega, ?_, ?_⟩
      · rw [← h3.2.2]; simp
      · rw [blt_common, if_neg h1, if_pos h2]
    · split at h <;> omega
theorem side_cases (x y : List UInt8) : side x y = -1 ∨ side x y = 0 ∨ side x y = 1 := by
  unfold side
  split
  · exact .inr (.inr rfl)
  · split
    · exact .inr (.inl rfl)
    · split
      · exact .inl rfl
      · exact .inr (.inr rfl)
end Nib
end Go.Proofs.YtaplecncnkkigaaDoor
