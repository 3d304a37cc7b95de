/- Small lemmas of my own for the walks of this seat. No conditions. -/
import Derived.Test.YtojpijpajdiiiaaRows
import Derived.Test.YtojpijpajdiiiaaWords
import Derived.WalkLawsBesides
import Derived.BigQuiet
import Derived.Deep.LoopGhost
import Derived.Deep.RegionHeld3
import Derived.ScopeJumps
import Derived.Handy
import Derived.Deep.RegionLaw
import Derived.Laws.IdiomStrings
import Derived.Laws.BytesArg
namespace Go.Proofs.Ytojpijpajdiiiaa
set_option linter.unusedVariables false
open Go.RowKit

theorem ret_int {k : IntKind} {a b : Int} (h : a = b) : Ending.returned (.int k a) = .returned (.int k b) := by rw [h]
theorem ret_bool {a b : Bool} (h : a = b) : Ending.returned (.bool a) = .returned (.bool b) := by rw [h]
theorem ret_string {a b : ByteArray} (h : a = b) : Ending.returned (.string a) = .returned (.string b) := by rw [h]

theorem bcell {W w1 : World} {B : Nat} (hb : Below B W w1) : (∀ b o, b < B → w1.cell? ⟨b, o, none⟩ = W.cell? ⟨b, o, none⟩) ∧ (∀ b o, b < B → w1.frozen? ⟨b, o, none⟩ = W.frozen? ⟨b, o, none⟩) :=
  ⟨fun b o h => hb.cell (p := ⟨b, o, none⟩) h, fun b o h => hb.frozen (p := ⟨b, o, none⟩) h⟩

/-- numbers as values -/
def ints (l : List Nat) : List Value := l.map fun (n : Nat) => Value.int .i64 (n : Int)
theorem ints_one (l : List Nat) : ∀ u ∈ ints l, u.oneCell' = true := by
  intro u hu
  simp [ints] at hu
  obtain ⟨n, _, rfl⟩ := hu
  rfl
theorem ints_snoc (l : List Nat) (n : Nat) : ints (l ++ [n]) = ints l ++ [.int .i64 n] := by simp [ints]
theorem ints_length (l : List Nat) : (ints l).length = l.length := by simp [ints]

theorem ba_get (s : List UInt8) (i : Nat) (h : i < (ByteArray.mk s.toArray).size) : (ByteArray.mk s.toArray)[i] = s[i]'(by simpa [ByteArray.size] using h) := rfl
theorem u8_div (b : UInt8) : UInt8.ofNat ((b.toNat : Int) / 16).toNat = b / 16 := by
  apply UInt8.toNat_inj.1
  have := b.toNat_lt
  simp [UInt8.toNat_div]
  omega
theorem u8_mod (b : UInt8) : UInt8.ofNat ((b.toNat : Int) % 16).toNat = b % 16 := by
  apply UInt8.toNat_inj.1
  have := b.toNat_lt
  simp [UInt8.toNat_mod]
  omega
theorem and15_fin : ∀ n : Fin 256, bits .and .u8 ((n.val : Nat) : Int) 15 = ((n.val % 16 : Nat) : Int) := by decide +kernel
theorem u8_and15 (b : UInt8) : bits .and .u8 (b.toNat : Int) 15 = (b.toNat : Int) % 16 := by
  have := and15_fin ⟨b.toNat, b.toNat_lt⟩
  simpa using this
theorem pack_fin : ∀ n m : Fin 16, bits .or .u8 (IntKind.u8.wrap (((n.val : Nat) : Int) * 16)) ((m.val : Nat) : Int) = (((n.val * 16 + m.val) % 256 : Nat) : Int) := by decide +kernel
theorem u8_pack (a b : UInt8) (ha : a ≤ 15) (hb : b ≤ 15) : bits .or .u8 (IntKind.u8.wrap ((a.toNat : Int) * 16)) (b.toNat : Int) = ((a * 16 + b).toNat : Int) := by
  rw [UInt8.le_iff_toNat_le] at ha hb
  have := pack_fin ⟨a.toNat, by simp at ha; omega⟩ ⟨b.toNat, by simp at hb; omega⟩
  simpa [UInt8.toNat_add, UInt8.toNat_mul] using this
theorem pack_fin2 : ∀ n m : Fin 16, IntKind.u8.wrap (IntKind.u8.wrap (((n.val : Nat) : Int) * 16) + ((m.val : Nat) : Int)) = (((n.val * 16 + m.val) % 256 : Nat) : Int) := by decide +kernel
theorem u8_pack2 (a b : UInt8) (ha : a ≤ 15) (hb : b ≤ 15) : IntKind.u8.wrap (IntKind.u8.wrap ((a.toNat : Int) * 16) + (b.toNat : Int)) = ((a * 16 + b).toNat : Int) := by
  rw [UInt8.le_iff_toNat_le] at ha hb
  have := pack_fin2 ⟨a.toNat, by simp at ha; omega⟩ ⟨b.toNat, by simp at hb; omega⟩
  simpa [UInt8.toNat_add, UInt8.toNat_mul] using this
theorem or16_fin : ∀ n : Fin 16, bits .or .u8 16 ((n.val : Nat) : Int) = ((16 + n.val : Nat) : Int) ∧ bits .or .u8 0 ((16 + n.val : Nat) : Int) = ((16 + n.val : Nat) : Int) ∧ bits .or .u8 32 ((16 + n.val : Nat) : Int) = ((48 + n.val : Nat) : Int) := by decide +kernel
theorem u8_or16 (a : UInt8) (ha : a ≤ 15) : bits .or .u8 16 (a.toNat : Int) = ((16 + a.toNat : Nat) : Int) ∧ bits .or .u8 0 ((16 + a.toNat : Nat) : Int) = ((16 + a.toNat : Nat) : Int) ∧ bits .or .u8 32 ((16 + a.toNat : Nat) : Int) = ((48 + a.toNat : Nat) : Int) := by
  rw [UInt8.le_iff_toNat_le] at ha
  exact or16_fin ⟨a.toNat, by simp at ha; omega⟩
theorem and12_fin : ∀ n : Fin 256, bits .and .u8 (((n.val : Nat) : Int) / 16) 1 = ((n.val / 16 % 2 : Nat) : Int) ∧ bits .and .u8 (((n.val : Nat) : Int) / 16) 2 = ((n.val / 16 / 2 % 2 * 2 : Nat) : Int) := by decide +kernel
theorem u8_and12 (b : UInt8) : bits .and .u8 ((b.toNat : Int) / 16) 1 = ((b.toNat / 16 % 2 : Nat) : Int) ∧ bits .and .u8 ((b.toNat : Int) / 16) 2 = ((b.toNat / 16 / 2 % 2 * 2 : Nat) : Int) :=
  and12_fin ⟨b.toNat, b.toNat_lt⟩
theorem ba_len (a : ByteArray) (h : a.size ≤ maxLen) : a.data.toList.length ≤ 9223372036854775807 := by
  rw [Array.length_toList]; exact h
/-- bytes as values -/
def bvals (l : List UInt8) : List Value := l.map fun (b : UInt8) => Value.int .u8 (b.toNat : Int)
theorem bvals_one (l : List UInt8) : ∀ u ∈ bvals l, u.oneCell' = true := by
  intro u hu
  simp [bvals] at hu
  obtain ⟨n, _, rfl⟩ := hu
  rfl
theorem bvals_length (l : List UInt8) : (bvals l).length = l.length := by simp [bvals]
theorem u8_ofInt (x : Int) (h0 : 0 ≤ x) (h1 : x < 256) : ((UInt8.ofNat x.toNat).toNat : Int) = x := by
  have : x.toNat < 256 := by omega
  simp [Nat.mod_eq_of_lt this]; omega

theorem _root_.Go.RowKit.Below.start {B : Nat} {a b : World} (h : Below B a.drew b) : Below B a b := ⟨h.os, h.tape, h.output, h.size, h.block⟩
theorem _root_.Go.RowKit.Below.nxt {a b c : World} (g : Below a.heap.size a b) (h : Below b.heap.size b c) : Below a.heap.size a c := g.trans (h.mono g.size)
theorem _root_.Go.RowKit.Below.start_drewN {n : Nat} {a b : World} (h : Below (a.drewN n).heap.size (a.drewN n) b) : Below a.heap.size a b := ⟨h.os, h.tape, h.output, h.size, h.block⟩
/-- A slice of at least one element: where it lies, and each of its cells. -/
theorem Reads.form {w : World} {B size n : Nat} {A : Option Addr} {xs : List Value} (h : Reads w B size A n xs) (hn : 0 < n) (hs : 0 < size) :
    ∃ b off, A = some ⟨b, off, none⟩ ∧ b < B ∧ ∀ (j : Nat) (hj : j < xs.length), w.cell? ⟨b, off + j, none⟩ = some xs[j] := by
  obtain ⟨⟨b, off, sp⟩, rfl, hb, hc⟩ := h.2 hn
  have hl : 0 < xs.length := by rw [h.1]; exact Nat.mul_pos hn hs
  have h0 := hc 0 _ (List.getElem?_eq_getElem hl)
  have hsp : sp = none := by
    cases sp with
    | none => rfl
    | some q =>
      have e : (⟨b, off, some q⟩ : Addr).add 0 = ⟨b, off, some q⟩ := rfl
      rw [e] at h0
      simp only [World.cell?] at h0
      split at h0 <;> simp at h0
  subst hsp
  refine ⟨b, off, rfl, hb, fun j hj => ?_⟩
  have := hc j _ (List.getElem?_eq_getElem hj)
  rwa [show (⟨b, off, none⟩ : Addr).add j = ⟨b, off + j, none⟩ from by unfold Addr.add; split <;> simp_all] at this

theorem own_form {w : World} {base e size n : Nat} {v : Value} {xs : List Value} (h : w.ownsRow base e size v n xs) : ∃ A c, v = .slice A n c ∧ Reads w w.heap.size size A n xs ∧ n ≤ c ∧ ∀ a, A = some a → base ≤ a.block := by
  rcases h.2 with ⟨rfl, rfl⟩ | ⟨g, cap, cur, rfl, hg, _, hc, _⟩
  · exact ⟨none, 0, rfl, Reads.of_own h, Nat.le_refl _, by simp⟩
  · exact ⟨_, cap, rfl, Reads.of_own h, hc, by intro a ha; injection ha with ha; subst ha; exact hg⟩

/-- What is owned stays owned by a call that leaves alone whatever was there. -/
theorem own_below {w w1 : World} {base e size n : Nat} {v : Value} {xs : List Value} (h : w.ownsRow base e size v n xs) (hb : Below w.heap.size w w1) : w1.ownsRow base e size v n xs :=
  h.kept (only_of_below hb none) (by cases hv : v.ownBlock <;> simp)

/-- What was made later lies apart from what was there. -/
theorem own_apart {w : World} {base e size n : Nat} {v v1 : Value} {xs : List Value} (h : w.ownsRow base e size v n xs) {b1 B : Nat} (lt1 : ∀ k, v1.ownBlock = some k → b1 ≤ k ∧ k < B) (hB : B ≤ base) : v.ownBlock = none ∨ v.ownBlock ≠ v1.ownBlock := by
  cases hv : v.ownBlock with
  | none => exact .inl rfl
  | some k =>
    refine .inr fun e => ?_
    have h1 := (h.lt k hv).1
    have h2 := (lt1 k e.symm).2
    omega

theorem own_apart' {v v1 : Value} {b1 B : Nat} (lt1 : ∀ k, v.ownBlock = some k → b1 ≤ k ∧ k < B) (h : ∀ k, v1.ownBlock = some k → B ≤ k) : v.ownBlock = none ∨ v.ownBlock ≠ v1.ownBlock := by
  cases hv : v.ownBlock with
  | none => exact .inl rfl
  | some k =>
    refine .inr fun e => ?_
    have h1 := (lt1 k hv).2
    have h2 := h k e.symm
    omega

/-- A scope in which the run jumps back to one label, with a number of the proof's own that every pass lowers. -/
theorem wp_scope_ghost {P : Program} {a : Act} {w : World} {Q : Exit → Act → World → Prop} {c rest : Code} (l : Nat) (J : Nat → Act → World → Prop) (hf : findLabel c l = some rest)
    (first : ∀ K : Act → World → Prop, (∀ k a' w', J k a' w' → K a' w') → c.wp P (Exit.jump l K Q) a w)
    (pass : ∀ n a w, J n a w → ∀ K : Act → World → Prop, (∀ k a' w', k < n → J k a' w' → K a' w') → rest.wp P (Exit.jump l K Q) a w) : (Code.scope c).wp P Q a w := by
  refine wp_scope_jumps l (fun a w => ∃ n, J n a w) (fun a w => leastOf (fun n => J n a w)) hf (first _ fun k a' w' h => ⟨k, h⟩) ?_
  intro a w hI
  refine pass _ a w (leastOf_spec hI).1 _ ?_
  intro k a' w' hlt hJ
  exact ⟨⟨k, hJ⟩, Nat.lt_of_le_of_lt ((leastOf_spec ⟨k, hJ⟩).2 k hJ) hlt⟩

/-- 'out = append(out, x..)' of cells that were just boxed in a new block: what is owned grows, everything else stays. -/
theorem wp_append_new {P : Program} (wr : World) (e : TypeId) (news : List Value) {o : Oper} {a : Act} {K : Act → World → Prop} {Q : Exit → Act → World → Prop} (s x : Operand) (t : TypeId)
    (ho : o.op = .call { callee := .builtin .append, args := #[s, x], argTypes := #[t, t] })
    (base size bytes : Nat) (z : Value) (hinfo : (P.info? e).map (fun i => (i.zero, i.size, i.bytes)) = some (some z, size, bytes)) (ht : P.underlying t = some (.slice e)) (hzs : z.cells.size = size) (hsz : 0 < size)
    (v : Value) (n : Nat) (xs : List Value) (hs : a.eval s = v) (hown : wr.ownsRow base e size v n xs)
    (m c : Nat) (hx : a.eval x = .slice (some ⟨wr.heap.size, 0, none⟩) m c) (hl : news.length = m * size) (h1 : ∀ u ∈ news, u.oneCell' = true)
    (h63 : n + m ≤ maxLen) (hbytes : (n + m) * bytes ≤ 140737488355328) (B : Nat) (w0 : World) (hb : Below B w0 wr) (hB : B ≤ base) (hbase : base ≤ wr.heap.size)
    (h : ∀ v' w', w'.ownsRow base e size v' (n + m) (xs ++ news) → Below B w0 w' → wr.grownBy w' v.ownBlock → (v'.ownBlock = v.ownBlock ∨ ∃ g, v'.ownBlock = some g ∧ wr.heap.size ≤ g) → wr.heap.size < w'.heap.size → K (a.put o.dst v') w') :
    o.wp P a (wr.alloc (.cells news.toArray e)) K Q := by
  obtain ⟨i, hi, hz, hsize, hby⟩ := info_parts hinfo
  have hn : ∀ j u, news[j]? = some u → (wr.alloc (.cells news.toArray e)).cell? ((⟨wr.heap.size, 0, none⟩ : Addr).add j) = some u := by
    intro j u hu
    have ha : (⟨wr.heap.size, 0, none⟩ : Addr).add j = ⟨wr.heap.size, j, none⟩ := by unfold Addr.add; split <;> simp_all
    rw [ha, World.cell?_alloc_at _ _ _ _ rfl]
    simpa using hu
  obtain ⟨v', w', hrun, h2, h3, _, h5⟩ := run_append_own_at (P := P) (wr.alloc (.cells news.toArray e)) base t o.type e i z size bytes ht hi hz hsize hby hzs hsz v n xs (hown.alloc _) ⟨wr.heap.size, 0, none⟩ m c news hl hn h1 h63 hbytes (by simp; omega)
  unfold Oper.wp execOp
  simp only [ho, resolve, invoke, builtin, Sem.run_bind, Sem.run_pure, Result.andThen_ok, List.map_toArray, List.map_cons, List.map_nil, hs, hx, hrun]
  have hlt := hown.lt
  have hsize' : wr.heap.size < w'.heap.size := by have := h3.size; simp at this; omega
  have hg : wr.grownBy w' v.ownBlock := ⟨h3.os, h3.tape, h3.output, by omega, fun k hk hne => (h3.block k (by simp; omega) hne).trans (Below.heap_alloc _ _ _ hk)⟩
  refine h v' w' h2 (hb.grown hg (by omega) (fun k hk => by have := (hlt k hk).1; omega)) hg ?_ hsize'
  rcases h5 with h5 | h5
  · exact .inl h5
  · exact .inr ⟨_, h5, by simp⟩

theorem wpList_append_new {P : Program} (wr : World) (e : TypeId) (news : List Value) {ops : Array Oper} {rest : List Oper} {o : Oper} {a : Act} {Q : Exit → Act → World → Prop} (hgd : o.guard = none) (s x : Operand) (t : TypeId)
    (ho : o.op = .call { callee := .builtin .append, args := #[s, x], argTypes := #[t, t] })
    (base size bytes : Nat) (z : Value) (hinfo : (P.info? e).map (fun i => (i.zero, i.size, i.bytes)) = some (some z, size, bytes)) (ht : P.underlying t = some (.slice e)) (hzs : z.cells.size = size) (hsz : 0 < size)
    (v : Value) (n : Nat) (xs : List Value) (hs : a.eval s = v) (hown : wr.ownsRow base e size v n xs)
    (m c : Nat) (hx : a.eval x = .slice (some ⟨wr.heap.size, 0, none⟩) m c) (hl : news.length = m * size) (h1 : ∀ u ∈ news, u.oneCell' = true)
    (h63 : n + m ≤ maxLen) (hbytes : (n + m) * bytes ≤ 140737488355328) (B : Nat) (w0 : World) (hb : Below B w0 wr) (hB : B ≤ base) (hbase : base ≤ wr.heap.size)
    (h : ∀ v' w', w'.ownsRow base e size v' (n + m) (xs ++ news) → Below B w0 w' → wr.grownBy w' v.ownBlock → (v'.ownBlock = v.ownBlock ∨ ∃ g, v'.ownBlock = some g ∧ wr.heap.size ≤ g) → wr.heap.size < w'.heap.size → wpList P ops Q rest (a.put o.dst v') w') :
    wpList P ops Q (o :: rest) a (wr.alloc (.cells news.toArray e)) :=
  wpList_plain hgd fun _ hK => wp_append_new wr e news s x t ho base size bytes z hinfo ht hzs hsz v n xs hs hown m c hx hl h1 h63 hbytes B w0 hb hB hbase fun v' w' h2 h3 h4 h5 h6 => hK _ _ (h v' w' h2 h3 h4 h5 h6)

theorem step_append_new {P : Program} (wr : World) (e : TypeId) (news : List Value) {ops : Array Oper} {o : Oper} {a : Act} {K : Act → World → Prop} {Q : Exit → Act → World → Prop} {E : Prop} (hgd : o.guard = none) (s x : Operand) (t : TypeId)
    (ho : o.op = .call { callee := .builtin .append, args := #[s, x], argTypes := #[t, t] })
    (base size bytes : Nat) (z : Value) (hinfo : (P.info? e).map (fun i => (i.zero, i.size, i.bytes)) = some (some z, size, bytes)) (ht : P.underlying t = some (.slice e)) (hzs : z.cells.size = size) (hsz : 0 < size)
    (v : Value) (n : Nat) (xs : List Value) (hs : a.eval s = v) (hown : wr.ownsRow base e size v n xs)
    (m c : Nat) (hx : a.eval x = .slice (some ⟨wr.heap.size, 0, none⟩) m c) (hl : news.length = m * size) (h1 : ∀ u ∈ news, u.oneCell' = true)
    (h63 : n + m ≤ maxLen) (hbytes : (n + m) * bytes ≤ 140737488355328) (B : Nat) (w0 : World) (hb : Below B w0 wr) (hB : B ≤ base) (hbase : base ≤ wr.heap.size)
    (h : ∀ v' w', w'.ownsRow base e size v' (n + m) (xs ++ news) → Below B w0 w' → wr.grownBy w' v.ownBlock → (v'.ownBlock = v.ownBlock ∨ ∃ g, v'.ownBlock = some g ∧ wr.heap.size ≤ g) → wr.heap.size < w'.heap.size → K (a.put o.dst v') w') :
    if Region.wanted o (yielded ops a.tmps) = true then Oper.wp P o a (wr.alloc (.cells news.toArray e)).drew K Q else E := by
  have hw : Region.wanted o (yielded ops a.tmps) = true := by simp [Region.wanted, hgd]
  rw [if_pos hw]
  refine wp_append_new wr.drew e news s x t ho base size bytes z hinfo ht hzs hsz v n xs hs hown m c hx hl h1 h63 hbytes B w0 hb.drew hB hbase fun v' w' h2 h3 h4 h5 h6 => h v' w' h2 h3 ⟨h4.os, h4.tape, h4.output, h4.size, h4.block⟩ h5 h6

theorem info_int : (Try.prog.info? 3).map (fun i => (i.zero, i.size, i.bytes)) = some (some (.int .i64 0), 1, 8) := by kernel_rfl
theorem info_byte : (Try.prog.info? 5).map (fun i => (i.zero, i.size, i.bytes)) = some (some (.int .u8 0), 1, 1) := by kernel_rfl
end Go.Proofs.Ytojpijpajdiiiaa
