import Derived.WalkKit
import Derived.WalkSpells
import Derived.Below
import Derived.Laws.OwnMore
import Derived.Deep.AppendLies
import Derived.Deep.Draws
import Derived.Laws.Rows
import Derived.Maps.AppendAt
import Derived.RegionTactic
import Derived.OwnWalk
import Derived.Deep.OwnRows
import Derived.Laws.AppendOwn
import Derived.Laws.MakeOwn
import Derived.Laws.Entries
import Derived.LaidEqlPtr
import Derived.Laws.BitsAllLaws
import Derived.Laws.BitsLemmas
import Derived.ChangeSame
import Derived.Deep.QuietTactic
import Derived.Lib.Hide
import Derived.ShutString
import Derived.Test.YtcjafcbekegmlaaDoorRows
import Derived.WalkLawsBesides
import Derived.BigQuiet
import Derived.Deep.LoopGhost
import Derived.Deep.RegionHeld3
import Derived.ScopeJumps
import Derived.Handy
import Derived.Deep.RegionLaw
import Derived.Laws.IdiomStrings
import Derived.Laws.BytesArg
import Derived.Laws.StructEq
import Derived.Maps.OwnOps
import Derived.Maps.OwnSet
set_option linter.unusedSimpArgs false
set_option linter.unusedVariables false
namespace Go.Proofs.YtcjafcbekegmlaaDoor
open Go.RowKit Go.WideShapes Go.ChangeShapes
theorem block_of_add (a : Addr) (n : Nat) : (a.add n).block = a.block := by unfold Addr.add; split <;> rfl
theorem add_of_add (a : Addr) (i j : Nat) : (a.add i).add j = a.add (i + j) := by
  unfold Addr.add
  by_cases hi : i = 0 <;> by_cases hj : j = 0 <;> simp [hi, hj, Nat.add_assoc]
def Reads (w : World) (B size : Nat) (A : Option Addr) (n : Nat) (xs : List Value) : Prop :=
  xs.length = n * size ∧ (0 < n → ∃ ad, A = some ad ∧ ad.block < B ∧ ∀ j u, xs[j]? = some u → w.cell? (ad.add j) = some u)
section
variable {w w' : World} {B B' size n : Nat} {A : Option Addr} {xs : List Value}
theorem Reads.none_ : Reads w B size A 0 [] := ⟨by simp, fun h => absurd h (by omega)⟩
theorem Reads.at_ {k : Nat} (h : Reads w B 1 A n xs) (hk : k < n) : ∃ ad u, A = some ad ∧ ad.block < B ∧ xs[k]? = some u ∧ w.cell? (ad.add k) = some u := by
  obtain ⟨ad, e, hb, hc⟩ := h.2 (by omega)
  have hl : k < xs.length := by have := h.1; omega
  exact ⟨ad, xs[k], e, hb, List.getElem?_eq_getElem hl, hc k _ (List.getElem?_eq_getElem hl)⟩
theorem Reads.keep (h : Reads w B size A n xs) (hk : ∀ p : Addr, p.block < B → w'.cell? p = w.cell? p) : Reads w' B size A n xs :=
  ⟨h.1, fun hn => by
    obtain ⟨ad, e, hb, hc⟩ := h.2 hn
    exact ⟨ad, e, hb, fun j u hu => (hk _ (by rw [block_of_add]; exact hb)).trans (hc j u hu)⟩⟩
theorem Reads.more (h : Reads w B size A n xs) (hB : B ≤ B') : Reads w B' size A n xs :=
  ⟨h.1, fun hn => by
    obtain ⟨ad, e, hb, hc⟩ := h.2 hn
    exact ⟨ad, e, by omega, hc⟩⟩
theorem Reads.below (h : Reads w B size A n xs) (hb : Below B w w') : Reads w' B size A n xs := h.keep fun _ hp => hb.cell hp
theorem Reads.drew (h : Reads w B size A n xs) : Reads w.drew B size A n xs := h
theorem Reads.drewN (h : Reads w B size A n xs) (k : Nat) : Reads (w.drewN k) B size A n xs := h
theorem Reads.alloc (h : Reads w B size A n xs) (hB : B ≤ w.heap.size) (o : Obj) : Reads (w.alloc o) B size A n xs := h.keep fun p hp => World.cell?_alloc_lt w o p (by omega)
theorem Reads.setCell (h : Reads w B size A n xs) {p : Addr} (hB : B ≤ p.block) (u : Value) : Reads (w.setCell p u) B size A n xs :=
  h.keep fun q hq => World.cell?_setCell_other w p q u (fun e => by subst e; omega)
theorem Reads.grown (h : Reads w B size A n xs) {row : Option Nat} (hg : w.grownBy w' row) (hB : B ≤ w.heap.size) (hr : ∀ g, row = some g → B ≤ g) : Reads w' B size A n xs :=
  h.keep fun p hp => World.cell?_of_block (hg.block p.block (by omega) (fun e => by have := hr _ e.symm; omega))
theorem Reads.cut (h : Reads w B size A n xs) {k cap : Nat} (hk : k ≤ n) (hc : n ≤ cap) :
    Reads w B size (if cap = k then A else A.map (·.add (k * size))) (n - k) (xs.drop (k * size)) := by
  refine ⟨by rw [List.length_drop, h.1, Nat.sub_mul], fun hn => ?_⟩
  obtain ⟨ad, rfl, hb, hcell⟩ := h.2 (by omega)
  rw [if_neg (by omega)]
  refine ⟨ad.add (k * size), rfl, by rw [block_of_add]; exact hb, fun j u hu => ?_⟩
  rw [add_of_add]
  exact hcell _ u (by rw [← hu, List.getElem?_drop])
theorem Reads.of_own {base : Nat} {e : TypeId} {c : Nat} (h : w.ownsRow base e size (.slice A n c) n xs) : Reads w w.heap.size size A n xs := by
  refine ⟨h.1, fun hn => ?_⟩
  obtain ⟨g, cap, hv, _, hlt⟩ := h.form hn
  have hA : A = some ⟨g, 0, none⟩ := by injection hv
  subst hA
  exact ⟨_, rfl, hlt, h.cells (g := g) rfl⟩
end
def Blk (w : World) (g : Nat) (t : TypeId) (cs : Array Value) : Prop := w.heap[g]? = some (.cells cs t (0, 0))
section
variable {w w' : World} {g : Nat} {t : TypeId} {cs : Array Value}
theorem Blk.lt (h : Blk w g t cs) : g < w.heap.size := by
  rcases Nat.lt_or_ge g w.heap.size with hlt | hge
  · exact hlt
  · unfold Blk at h; rw [Array.getElem?_eq_none hge] at h; cases h
theorem Blk.cell (h : Blk w g t cs) (i : Nat) : w.cell? ⟨g, i, none⟩ = cs[i]? := cell_of_row w g i cs t (0, 0) h
theorem Blk.frozen (h : Blk w g t cs) (i : Nat) : w.frozen? ⟨g, i, none⟩ = false := by
  unfold Blk at h
  simp [World.frozen?, h]
theorem Blk.new (w : World) (t : TypeId) (cs : Array Value) : Blk (w.alloc (.cells cs t)) w.heap.size t cs := heap_alloc_new w _
theorem Blk.drew (h : Blk w g t cs) : Blk w.drew g t cs := h
theorem Blk.drewN (h : Blk w g t cs) (n : Nat) : Blk (w.drewN n) g t cs := h
theorem Blk.alloc (h : Blk w g t cs) (o : Obj) : Blk (w.alloc o) g t cs := (Below.heap_alloc w o g h.lt).trans h
theorem Blk.set_ (h : Blk w g t cs) (i : Nat) (u : Value) : Blk (w.setCell ⟨g, i, none⟩ u) g t (cs.setIfInBounds i u) := by
  unfold Blk at h ⊢
  simp [World.setCell, Array.getElem?_modify, h]
theorem Blk.far (h : Blk w g t cs) {p : Addr} (hp : g ≠ p.block) (u : Value) : Blk (w.setCell p u) g t cs := (Below.heap_setCell w p u g hp).trans h
theorem Blk.below {B : Nat} (h : Blk w g t cs) (hb : Below B w w') (hg : g < B) : Blk w' g t cs := (hb.block g hg).trans h
theorem Blk.grown {row : Option Nat} (h : Blk w g t cs) (hb : w.grownBy w' row) (hg : some g ≠ row) : Blk w' g t cs := (hb.block g h.lt hg).trans h
theorem Blk.ne_ {g' : Nat} {t' : TypeId} {cs' : Array Value} (h : Blk w g t cs) (h' : Blk w g' t' cs') (hne : t ≠ t') : g ≠ g' := by
  rintro rfl
  unfold Blk at h h'
  rw [h] at h'
  injection h' with h'
  injection h' with _ ht
  exact hne ht
theorem own_blk_ne {base : Nat} {e : TypeId} {size n : Nat} {v : Value} {xs : List Value} (h : w.ownsRow base e size v n xs) (hg : Blk w g t cs) (hne : e ≠ t) : v.ownBlock ≠ some g := by
  rcases h.2 with ⟨rfl, _⟩ | ⟨g', cap, cur, rfl, _, hh, _⟩
  · simp [Value.ownBlock]
  · intro he
    have : g' = g := by simpa [Value.ownBlock] using he
    subst this
    exact Blk.ne_ (t := e) hh hg hne rfl
end
section
variable {P : Program} (w : World)
theorem run_append_of_nil (base : Nat) (t ty e : TypeId) (i : TypeInfo) (size : Nat) (ht : P.underlying t = some (.slice e)) (hi : P.info? e = some i)
    (v : Value) (n : Nat) (xs : List Value) (hown : w.ownsRow base e size v n xs) (c : Nat) : (Builtin.append_ #[t, t] ty #[v, .slice none 0 c]).run P w = .ok v w := by
  rcases hown.2 with ⟨rfl, rfl⟩ | ⟨g, cap, cur, rfl, _, _, hnc, _⟩
  · simp [Builtin.append_, run_underlying ht, sizeOf, typeInfo, hi, Builtin.lenOf, Builtin.firstCells]
  · simp [Builtin.append_, run_underlying ht, sizeOf, typeInfo, hi, Builtin.lenOf, Builtin.firstCells, hnc, storeCells]
theorem run_append_any (base : Nat) (t ty e : TypeId) (i : TypeInfo) (z : Value) (size bytes : Nat) (ht : P.underlying t = some (.slice e)) (hi : P.info? e = some i) (hz : i.zero = some z)
    (hsize : i.size = size) (hby : i.bytes = bytes) (hzs : z.cells.size = size) (hsz : 0 < size)
    (v : Value) (n : Nat) (xs : List Value) (hown : w.ownsRow base e size v n xs)
    (B : Nat) (A : Option Addr) (m c : Nat) (news : List Value) (hr : Reads w B size A m news) (h1 : ∀ u ∈ news, u.oneCell' = true)
    (h63 : n + m ≤ maxLen) (hbytes : (n + m) * bytes ≤ 140737488355328) (hbase : base ≤ w.heap.size) :
    ∃ v' w', (Builtin.append_ #[t, t] ty #[v, .slice A m c]).run P w = .ok v' w' ∧ w'.ownsRow base e size v' (n + m) (xs ++ news) ∧ w.grownBy w' v.ownBlock ∧
      (v'.ownBlock = v.ownBlock ∨ v'.ownBlock = some w.heap.size) := by
  rcases A with _ | ad
  · have hm : m = 0 := by
      rcases Nat.eq_zero_or_pos m with h0 | h0
      · exact h0
      · obtain ⟨ad, h, _⟩ := hr.2 h0
        cases h
    subst hm
    have hn : news = [] := List.eq_nil_of_length_eq_zero (by simpa using hr.1)
    subst hn
    exact ⟨v, w, run_append_of_nil w base t ty e i size ht hi v n xs hown c, by simpa using hown, World.grownBy.refl w _, .inl rfl⟩
  · have hcells : ∀ j u, news[j]? = some u → w.cell? (ad.add j) = some u := by
      intro j u hu
      rcases Nat.eq_zero_or_pos m with h0 | h0
      · subst h0
        have hn : news = [] := List.eq_nil_of_length_eq_zero (by simpa using hr.1)
        subst hn
        simp at hu
      · obtain ⟨ad', h, _, hc⟩ := hr.2 h0
        injection h with h
        subst h
        exact hc j u hu
    obtain ⟨v', w', hrun, h2, h3, _, h5⟩ := run_append_own_at (P := P) w base t ty e i z size bytes ht hi hz hsize hby hzs hsz v n xs hown ad m c news hr.1 hcells h1 h63 hbytes hbase
    exact ⟨v', w', hrun, h2, h3, h5⟩
theorem wp_append_any {o : Oper} {a : Act} {K : Act → World → Prop} {Q : Exit → Act → World → Prop} (s x : Operand) (t : TypeId)
    (ho : o.op = .call { callee := .builtin .append, args := #[s, x], argTypes := #[t, t] })
    (base : Nat) (e : TypeId) (i : TypeInfo) (z : Value) (size bytes : Nat) (ht : P.underlying t = some (.slice e)) (hi : P.info? e = some i) (hz : i.zero = some z)
    (hsize : i.size = size) (hby : i.bytes = bytes) (hzs : z.cells.size = size) (hsz : 0 < size)
    (v : Value) (n : Nat) (xs : List Value) (hs : a.eval s = v) (hown : w.ownsRow base e size v n xs)
    (B : Nat) (A : Option Addr) (m c : Nat) (news : List Value) (hx : a.eval x = .slice A m c) (hr : Reads w B size A m news) (h1 : ∀ u ∈ news, u.oneCell' = true)
    (h63 : n + m ≤ maxLen) (hbytes : (n + m) * bytes ≤ 140737488355328) (hbase : base ≤ w.heap.size)
    (h : ∀ v' w', w'.ownsRow base e size v' (n + m) (xs ++ news) → w.grownBy w' v.ownBlock → (v'.ownBlock = v.ownBlock ∨ v'.ownBlock = some w.heap.size) → K (a.put o.dst v') w') : o.wp P a w K Q := by
  obtain ⟨v', w', hrun, h2, h3, h4⟩ := run_append_any (P := P) w base t o.type e i z size bytes ht hi hz hsize hby hzs hsz v n xs hown B A m c news hr h1 h63 hbytes hbase
  unfold Oper.wp execOp
  simp only [ho, resolve, invoke, builtin, Sem.run_bind, Sem.run_pure, Result.andThen_ok, List.map_toArray, List.map_cons, List.map_nil, hs, hx, hrun]
  exact h v' w' h2 h3 h4
theorem wpList_append_any {ops : Array Oper} {rest : List Oper} {o : Oper} {a : Act} {Q : Exit → Act → World → Prop} (hgd : o.guard = none) (s x : Operand) (t : TypeId)
    (ho : o.op = .call { callee := .builtin .append, args := #[s, x], argTypes := #[t, t] })
    (base : Nat) (e : TypeId) (i : TypeInfo) (z : Value) (size bytes : Nat) (ht : P.underlying t = some (.slice e)) (hi : P.info? e = some i) (hz : i.zero = some z)
    (hsize : i.size = size) (hby : i.bytes = bytes) (hzs : z.cells.size = size) (hsz : 0 < size)
    (v : Value) (n : Nat) (xs : List Value) (hs : a.eval s = v) (hown : w.ownsRow base e size v n xs)
    (B : Nat) (A : Option Addr) (m c : Nat) (news : List Value) (hx : a.eval x = .slice A m c) (hr : Reads w B size A m news) (h1 : ∀ u ∈ news, u.oneCell' = true)
    (h63 : n + m ≤ maxLen) (hbytes : (n + m) * bytes ≤ 140737488355328) (hbase : base ≤ w.heap.size)
    (h : ∀ v' w', w'.ownsRow base e size v' (n + m) (xs ++ news) → w.grownBy w' v.ownBlock → (v'.ownBlock = v.ownBlock ∨ v'.ownBlock = some w.heap.size) → wpList P ops Q rest (a.put o.dst v') w') : wpList P ops Q (o :: rest) a w :=
  wpList_plain hgd fun _ hK => wp_append_any w s x t ho base e i z size bytes ht hi hz hsize hby hzs hsz v n xs hs hown B A m c news hx hr h1 h63 hbytes hbase fun v' w' h2 h3 h4 => hK _ _ (h v' w' h2 h3 h4)
theorem step_append_any {ops : Array Oper} {o : Oper} {a : Act} {K : Act → World → Prop} {Q : Exit → Act → World → Prop} {E : Prop} (hgd : o.guard = none) (s x : Operand) (t : TypeId)
    (ho : o.op = .call { callee := .builtin .append, args := #[s, x], argTypes := #[t, t] })
    (base : Nat) (e : TypeId) (i : TypeInfo) (z : Value) (size bytes : Nat) (ht : P.underlying t = some (.slice e)) (hi : P.info? e = some i) (hz : i.zero = some z)
    (hsize : i.size = size) (hby : i.bytes = bytes) (hzs : z.cells.size = size) (hsz : 0 < size)
    (v : Value) (n : Nat) (xs : List Value) (hs : a.eval s = v) (hown : w.ownsRow base e size v n xs)
    (B : Nat) (A : Option Addr) (m c : Nat) (news : List Value) (hx : a.eval x = .slice A m c) (hr : Reads w B size A m news) (h1 : ∀ u ∈ news, u.oneCell' = true)
    (h63 : n + m ≤ maxLen) (hbytes : (n + m) * bytes ≤ 140737488355328) (hbase : base ≤ w.heap.size)
    (h : ∀ v' w', w'.ownsRow base e size v' (n + m) (xs ++ news) → w.grownBy w' v.ownBlock → (v'.ownBlock = v.ownBlock ∨ v'.ownBlock = some w.heap.size) → K (a.put o.dst v') w') :
    if Region.wanted o (yielded ops a.tmps) = true then Oper.wp P o a w K Q else E := by
  have hw : Region.wanted o (yielded ops a.tmps) = true := by simp [Region.wanted, hgd]
  rw [if_pos hw]
  exact wp_append_any w s x t ho base e i z size bytes ht hi hz hsize hby hzs hsz v n xs hs hown B A m c news hx hr h1 h63 hbytes hbase h
end
theorem below_drewN {B : Nat} {a w : World} (h : Below B a w) (n : Nat) : Below B a (w.drewN n) := ⟨h.os, h.tape, h.output, h.size, h.block⟩
theorem only_drewN {a w : World} {row : Option Nat} (h : a.grownBy w row) (n : Nat) : a.grownBy (w.drewN n) row := ⟨h.os, h.tape, h.output, h.size, h.block⟩
theorem only_drew {a w : World} {row : Option Nat} (h : a.grownBy w row) : a.grownBy w.drew row := ⟨h.os, h.tape, h.output, h.size, h.block⟩
theorem only_setCell {a w : World} {g : Nat} (h : a.grownBy w (some g)) {p : Addr} (hp : p.block = g ∨ a.heap.size ≤ p.block) (u : Value) : a.grownBy (w.setCell p u) (some g) :=
  ⟨h.os, h.tape, h.output, by simpa [World.setCell] using h.size, fun i hi hne => (Below.heap_setCell w p u i (by
    rintro rfl
    rcases hp with hp | hp
    · exact hne (by rw [hp])
    · omega)).trans (h.block i hi hne)⟩
theorem only_of_below {a w : World} (h : Below a.heap.size a w) (row : Option Nat) : a.grownBy w row := ⟨h.os, h.tape, h.output, h.size, fun i hi _ => h.block i hi⟩
theorem run_make_rowN {P : Program} (t e : TypeId) (i : TypeInfo) (z : Value) (ht : P.underlying t = some (.slice e)) (hi : P.info? e = some i) (hz : i.zero = some z)
    (kl kc : IntKind) (n c : Nat) (hnc : n ≤ c) (hbytes : i.bytes * c ≤ 281474976710656) (h63 : c ≤ 9223372036854775807) (w : World) :
    (Instr.makeSlice t (.int kl (n : Int)) (.int kc (c : Int))).run P w = .ok (.slice (some ⟨w.heap.size, 0, none⟩) n c) (w.alloc (.cells (madeCells z.cells (c * i.size)) e)) := by
  have hb : (i.bytes : Int) * (c : Int) ≤ 281474976710656 := by
    have h : ((i.bytes * c : Nat) : Int) ≤ 281474976710656 := by omega
    rwa [Int.natCast_mul] at h
  have hr := run_make (P := P) w t e i z ht hi hz kl kc n c (by omega) (by omega) hb (by omega)
  simp only [Int.toNat_natCast] at hr
  exact hr
theorem ofInt_i64 (a : Nat) (ha : a < 9223372036854775808) : (BitVec.ofInt 64 (a : Int)).toNat = a := by
  rw [BitVec.ofInt_natCast, BitVec.toNat_ofNat]; exact Nat.mod_eq_of_lt (by omega)
theorem i64_or_nat (a b : Nat) (ha : a < 9223372036854775808) (hb : b < 9223372036854775808) : bits .or .i64 (a : Int) (b : Int) = ((a ||| b : Nat) : Int) := by
  have hx : a ||| b < 2 ^ 63 := Nat.or_lt_two_pow (by omega) (by omega)
  show IntKind.i64.wrap ((BitVec.ofInt 64 (a : Int) ||| BitVec.ofInt 64 (b : Int)).toNat : Int) = _
  rw [BitVec.toNat_or, ofInt_i64 a ha, ofInt_i64 b hb, IntKind.wrap_i64]
  omega
section
variable {H : Type} {enc : TypeId × Value → H} {P : Program}
theorem post_of_below {f : Func} {s : ChangeSpec} {apart fresh handsOn again : Bool} {W W' : World} {args : Array Value} {v : Value} {ds gs : List (DataW H)} {before pa pv : List MemPlace}
    (hW : DataW.Whole enc P f.params.toList s.vars apart W args.toList ds gs before)
    (hres : ∀ (b : Nat) (sp : Nat → Bool) (hd : Bool), DataW.TrodAll enc P W' b sp hd f.resultTypes.toList (v.resultList f.resultTypes.size) (s.fn H (ds ++ gs)).results [])
    (hargs : ∀ sp : Nat → Bool, (∀ p ∈ before, sp p.block = true) → DataW.TrodAll enc P W' 0 sp true f.params.toList args.toList (s.fn H (ds ++ gs)).args pa)
    (hvars : ∀ sp : Nat → Bool, (∀ p ∈ before, sp p.block = true) → DataW.TrodVars enc P W' sp s.vars (s.fn H (ds ++ gs)).vars pv)
    (hps : before = pa ++ pv) (hb : Below W.heap.size W W')
    (hok : ∀ (j : Nat) (t : TypeId) (r : Value), f.resultTypes[j]? = some t → (v.resultList f.resultTypes.size)[j]? = some r → Value.okWide P W' .any 0 t r) :
    s.post enc P f apart fresh handsOn again W args v W' := by
  have hlt : ∀ p ∈ before, p.block < W.heap.size := fun p hp => hW.lt p hp
  have hold : ∀ p ∈ before, (fun b => decide (b < W.heap.size)) p.block = true := fun p hp => by simpa using hlt p hp
  refine ⟨ds, gs, before, [], pa, pv, hW, hres _ _ _, hargs _ hold, hvars _ hold, World.keptBut_mono (fun p hp => ⟨hp, ?_⟩) (hb.frame (· ∈ before)), fun _ => ?_⟩
  · rw [hps, List.mem_append] at hp
    exact Or.inr hp
  · obtain ⟨_, _, _, _, _, hz, hn⟩ := hW
    refine ⟨hok, _, _, ([] ++ pa) ++ pv, ⟨[] ++ pa, pv, trodAll_append (hargs _ (fun _ _ => rfl)) (hres _ _ _), hvars _ (fun _ _ => rfl), rfl, ?_, ?_⟩, ?_⟩
    · intro b off hp
      have hin : MemPlace.cell b off ∈ before := by rw [hps]; simpa using hp
      rw [hb.frozen (hlt _ hin)]
      exact hz b off hin
    · intro ha
      have := hn ha
      rw [hps] at this
      simpa using this
    · intro p hp _
      rw [hps]
      simpa using hp
end
end Go.Proofs.YtcjafcbekegmlaaDoor

namespace Go.Proofs.YtcjafcbekegmlaaDoor
set_option linter.unusedVariables false
open Go.RowKit
theorem ret_int {k : IntKind} {a b : Int} (h : a = b) : Ending.returned (.int k a) = .returned (.int k b) := by rw [h]
theorem ret_bool {a b : Bool} (h : a = b) : Ending.returned (.bool a) = .returned (.bool b) := by rw [h]
theorem ret_string {a b : ByteArray} (h : a = b) : Ending.returned (.string a) = .returned (.string b) := by rw [h]
theorem bcell {W w1 : World} {B : Nat} (hb : Below B W w1) : (∀ b o, b < B → w1.cell? ⟨b, o, none⟩ = W.cell? ⟨b, o, none⟩) ∧ (∀ b o, b < B → w1.frozen? ⟨b, o, none⟩ = W.frozen? ⟨b, o, none⟩) :=
  ⟨fun b o h => hb.cell (p := ⟨b, o, none⟩) h, fun b o h => hb.frozen (p := ⟨b, o, none⟩) h⟩
theorem ba_get (s : List UInt8) (i : Nat) (h : i < (ByteArray.mk s.toArray).size) : (ByteArray.mk s.toArray)[i] = s[i]'(by simpa [ByteArray.size] using h) := rfl
theorem and15_fin : ∀ n : Fin 256, bits .and .u8 ((n.val : Nat) : Int) 15 = ((n.val % 16 : Nat) : Int) := by decide +kernel
theorem u8_and15 (b : UInt8) : bits .and .u8 (b.toNat : Int) 15 = (b.toNat : Int) % 16 := by
  have := and15_fin ⟨b.toNat, b.toNat_lt⟩
  simpa using this
theorem pack_fin : ∀ n m : Fin 16, bits .or .u8 (IntKind.u8.wrap (((n.val : Nat) : Int) * 16)) ((m.val : Nat) : Int) = (((n.val * 16 + m.val) % 256 : Nat) : Int) := by decide +kernel
theorem u8_pack (a b : UInt8) (ha : a ≤ 15) (hb : b ≤ 15) : bits .or .u8 (IntKind.u8.wrap ((a.toNat : Int) * 16)) (b.toNat : Int) = ((a * 16 + b).toNat : Int) := by
  rw [UInt8.le_iff_toNat_le] at ha hb
  have := pack_fin ⟨a.toNat, by simp at ha; omega⟩ ⟨b.toNat, by simp at hb; omega⟩
  simpa [UInt8.toNat_add, UInt8.toNat_mul] using this
theorem or16_fin : ∀ n : Fin 16, bits .or .u8 16 ((n.val : Nat) : Int) = ((16 + n.val : Nat) : Int) ∧ bits .or .u8 0 ((16 + n.val : Nat) : Int) = ((16 + n.val : Nat) : Int) ∧ bits .or .u8 32 ((16 + n.val : Nat) : Int) = ((48 + n.val : Nat) : Int) := by decide +kernel
theorem u8_or16 (a : UInt8) (ha : a ≤ 15) : bits .or .u8 16 (a.toNat : Int) = ((16 + a.toNat : Nat) : Int) ∧ bits .or .u8 0 ((16 + a.toNat : Nat) : Int) = ((16 + a.toNat : Nat) : Int) ∧ bits .or .u8 32 ((16 + a.toNat : Nat) : Int) = ((48 + a.toNat : Nat) : Int) := by
  rw [UInt8.le_iff_toNat_le] at ha
  exact or16_fin ⟨a.toNat, by simp at ha; omega⟩
theorem and12_fin : ∀ n : Fin 256, bits .and .u8 (((n.val : Nat) : Int) / 16) 1 = ((n.val / 16 % 2 : Nat) : Int) ∧ bits .and .u8 (((n.val : Nat) : Int) / 16) 2 = ((n.val / 16 / 2 % 2 * 2 : Nat) : Int) := by decide +kernel
theorem u8_and12 (b : UInt8) : bits .and .u8 ((b.toNat : Int) / 16) 1 = ((b.toNat / 16 % 2 : Nat) : Int) ∧ bits .and .u8 ((b.toNat : Int) / 16) 2 = ((b.toNat / 16 / 2 % 2 * 2 : Nat) : Int) :=
  and12_fin ⟨b.toNat, b.toNat_lt⟩
def bvals (l : List UInt8) : List Value := l.map fun (b : UInt8) => Value.int .u8 (b.toNat : Int)
theorem bvals_one (l : List UInt8) : ∀ u ∈ bvals l, u.oneCell' = true := by
  intro u hu
  simp [bvals] at hu
  obtain ⟨n, _, rfl⟩ := hu
  rfl
theorem bvals_length (l : List UInt8) : (bvals l).length = l.length := by simp [bvals]
theorem u8_ofInt (x : Int) (h0 : 0 ≤ x) (h1 : x < 256) : ((UInt8.ofNat x.toNat).toNat : Int) = x := by
  have : x.toNat < 256 := by omega
  simp [Nat.mod_eq_of_lt this]; omega
theorem conv_reads (w : World) (B : Nat) (A : Option Addr) (n c : Nat) (l : List UInt8) (h : Reads w B 1 A n (bvals l)) :
    (convert 87 9 (.slice A n c)).run Tryd.prog w = .ok (.string ⟨l.toArray⟩) w := by
  have hl : l.length = n := by have := h.1; rw [bvals_length] at this; omega
  subst hl
  rcases Nat.eq_zero_or_pos l.length with h0 | h0
  · have hl : l = [] := List.eq_nil_of_length_eq_zero h0
    subst hl
    cases A with
    | none => exact run_convert_bytes_nil w 87 5 Tryd.underlying87 Tryd.underlying5 0 c 9 Tryd.underlying9
    | some a => exact run_convert_bytes_back w 87 9 5 a c [] Tryd.underlying87 Tryd.underlying5 Tryd.underlying9 (by simp)
  · obtain ⟨ad, rfl, _, hc⟩ := h.2 h0
    refine run_convert_bytes_back w 87 9 5 ad c l Tryd.underlying87 Tryd.underlying5 Tryd.underlying9 (fun j hj => hc j _ ?_)
    simp [bvals, List.getElem?_eq_getElem hj]
theorem conv1 (w : World) (x : Int) (h0 : 0 ≤ x) (h1 : x < 256) : (convert 87 9 (.slice (some ⟨w.heap.size, 0, none⟩) 1 1)).run Tryd.prog (w.alloc (.cells #[.int .u8 x] 5)) = .ok (.string ⟨#[UInt8.ofNat x.toNat]⟩) (w.alloc (.cells #[.int .u8 x] 5)) := by
  refine conv_reads _ (w.heap.size + 1) _ _ _ [UInt8.ofNat x.toNat] ⟨rfl, fun _ => ⟨_, rfl, by simp, fun j u hu => ?_⟩⟩
  have ha : (⟨w.heap.size, 0, none⟩ : Addr).add j = ⟨w.heap.size, j, none⟩ := by unfold Addr.add; split <;> simp_all
  rw [ha, World.cell?_alloc_at _ _ _ _ rfl]
  simp only [bvals, List.map, u8_ofInt x h0 h1] at hu
  simpa using hu
theorem conv2 (w : World) (x y : Int) (h0 : 0 ≤ x) (h1 : x < 256) (h2 : 0 ≤ y) (h3 : y < 256) : (convert 87 9 (.slice (some ⟨w.heap.size, 0, none⟩) 2 2)).run Tryd.prog (w.alloc (.cells #[.int .u8 x, .int .u8 y] 5)) = .ok (.string ⟨#[UInt8.ofNat x.toNat, UInt8.ofNat y.toNat]⟩) (w.alloc (.cells #[.int .u8 x, .int .u8 y] 5)) := by
  refine conv_reads _ (w.heap.size + 1) _ _ _ [UInt8.ofNat x.toNat, UInt8.ofNat y.toNat] ⟨rfl, fun _ => ⟨_, rfl, by simp, fun j u hu => ?_⟩⟩
  have ha : (⟨w.heap.size, 0, none⟩ : Addr).add j = ⟨w.heap.size, j, none⟩ := by unfold Addr.add; split <;> simp_all
  rw [ha, World.cell?_alloc_at _ _ _ _ rfl]
  simp only [bvals, List.map, u8_ofInt x h0 h1, u8_ofInt y h2 h3] at hu
  simpa using hu
theorem conv1d (w : World) (x : Int) (h0 : 0 ≤ x) (h1 : x < 256) : (convert 87 9 (.slice (some ⟨w.heap.size, 0, none⟩) 1 1)).run Tryd.prog (w.alloc (.cells #[.int .u8 x] 5)).drew = .ok (.string ⟨#[UInt8.ofNat x.toNat]⟩) (w.alloc (.cells #[.int .u8 x] 5)).drew := conv1 w.drew x h0 h1
theorem conv1_below (w w1 : World) (x : Int) (h0 : 0 ≤ x) (h1 : x < 256) (hb : Below (w.heap.size + 1) (w.alloc (.cells #[.int .u8 x] 5)).drew w1) :
    (convert 87 9 (.slice (some ⟨w.heap.size, 0, none⟩) 1 1)).run Tryd.prog w1 = .ok (.string ⟨#[UInt8.ofNat x.toNat]⟩) w1 := by
  refine conv_reads _ (w.heap.size + 1) _ _ _ [UInt8.ofNat x.toNat] ⟨rfl, fun _ => ⟨_, rfl, by simp, fun j u hu => ?_⟩⟩
  have ha : (⟨w.heap.size, 0, none⟩ : Addr).add j = ⟨w.heap.size, j, none⟩ := by unfold Addr.add; split <;> simp_all
  rw [ha, hb.cell (p := ⟨w.heap.size, j, none⟩) (by simp)]
  show (w.alloc (.cells #[.int .u8 x] 5)).cell? _ = _
  rw [World.cell?_alloc_at _ _ _ _ rfl]
  simp only [bvals, List.map, u8_ofInt x h0 h1] at hu
  simpa using hu
theorem _root_.Go.RowKit.Below.start {B : Nat} {a b : World} (h : Below B a.drew b) : Below B a b := ⟨h.os, h.tape, h.output, h.size, h.block⟩
theorem _root_.Go.RowKit.Below.nxt {a b c : World} (g : Below a.heap.size a b) (h : Below b.heap.size b c) : Below a.heap.size a c := g.trans (h.mono g.size)
theorem _root_.Go.RowKit.Below.start_drewN {n : Nat} {a b : World} (h : Below (a.drewN n).heap.size (a.drewN n) b) : Below a.heap.size a b := ⟨h.os, h.tape, h.output, h.size, h.block⟩
theorem Reads.form {w : World} {B size n : Nat} {A : Option Addr} {xs : List Value} (h : Reads w B size A n xs) (hn : 0 < n) (hs : 0 < size) :
    ∃ b off, A = some ⟨b, off, none⟩ ∧ b < B ∧ ∀ (j : Nat) (hj : j < xs.length), w.cell? ⟨b, off + j, none⟩ = some xs[j] := by
  obtain ⟨⟨b, off, sp⟩, rfl, hb, hc⟩ := h.2 hn
  have hl : 0 < xs.length := by rw [h.1]; exact Nat.mul_pos hn hs
  have h0 := hc 0 _ (List.getElem?_eq_getElem hl)
  have hsp : sp = none := by
    cases sp with
    | none => rfl
    | some q =>
      have e : (⟨b, off, some q⟩ : Addr).add 0 = ⟨b, off, some q⟩ := rfl
      rw [e] at h0
      simp only [World.cell?] at h0
      split at h0 <;> simp at h0
  subst hsp
  refine ⟨b, off, rfl, hb, fun j hj => ?_⟩
  have := hc j _ (List.getElem?_eq_getElem hj)
  rwa [show (⟨b, off, none⟩ : Addr).add j = ⟨b, off + j, none⟩ from by unfold Addr.add; split <;> simp_all] at this
theorem own_form {w : World} {base e size n : Nat} {v : Value} {xs : List Value} (h : w.ownsRow base e size v n xs) : ∃ A c, v = .slice A n c ∧ Reads w w.heap.size size A n xs ∧ n ≤ c ∧ ∀ a, A = some a → base ≤ a.block := by
  rcases h.2 with ⟨rfl, rfl⟩ | ⟨g, cap, cur, rfl, hg, _, hc, _⟩
  · exact ⟨none, 0, rfl, Reads.of_own h, Nat.le_refl _, by simp⟩
  · exact ⟨_, cap, rfl, Reads.of_own h, hc, by intro a ha; injection ha with ha; subst ha; exact hg⟩
theorem own_below {w w1 : World} {base e size n : Nat} {v : Value} {xs : List Value} (h : w.ownsRow base e size v n xs) (hb : Below w.heap.size w w1) : w1.ownsRow base e size v n xs :=
  h.kept (only_of_below hb none) (by cases hv : v.ownBlock <;> simp)
theorem wp_append_new {P : Program} (wr : World) (e : TypeId) (news : List Value) {o : Oper} {a : Act} {K : Act → World → Prop} {Q : Exit → Act → World → Prop} (s x : Operand) (t : TypeId)
    (ho : o.op = .call { callee := .builtin .append, args := #[s, x], argTypes := #[t, t] })
    (base size bytes : Nat) (z : Value) (hinfo : (P.info? e).map (fun i => (i.zero, i.size, i.bytes)) = some (some z, size, bytes)) (ht : P.underlying t = some (.slice e)) (hzs : z.cells.size = size) (hsz : 0 < size)
    (v : Value) (n : Nat) (xs : List Value) (hs : a.eval s = v) (hown : wr.ownsRow base e size v n xs)
    (m c : Nat) (hx : a.eval x = .slice (some ⟨wr.heap.size, 0, none⟩) m c) (hl : news.length = m * size) (h1 : ∀ u ∈ news, u.oneCell' = true)
    (h63 : n + m ≤ maxLen) (hbytes : (n + m) * bytes ≤ 140737488355328) (B : Nat) (w0 : World) (hb : Below B w0 wr) (hB : B ≤ base) (hbase : base ≤ wr.heap.size)
    (h : ∀ v' w', w'.ownsRow base e size v' (n + m) (xs ++ news) → Below B w0 w' → wr.grownBy w' v.ownBlock → (v'.ownBlock = v.ownBlock ∨ ∃ g, v'.ownBlock = some g ∧ wr.heap.size ≤ g) → wr.heap.size < w'.heap.size → K (a.put o.dst v') w') :
    o.wp P a (wr.alloc (.cells news.toArray e)) K Q := by
  obtain ⟨i, hi, hz, hsize, hby⟩ := info_parts hinfo
  have hn : ∀ j u, news[j]? = some u → (wr.alloc (.cells news.toArray e)).cell? ((⟨wr.heap.size, 0, none⟩ : Addr).add j) = some u := by
    intro j u hu
    have ha : (⟨wr.heap.size, 0, none⟩ : Addr).add j = ⟨wr.heap.size, j, none⟩ := by unfold Addr.add; split <;> simp_all
    rw [ha, World.cell?_alloc_at _ _ _ _ rfl]
    simpa using hu
  obtain ⟨v', w', hrun, h2, h3, _, h5⟩ := run_append_own_at (P := P) (wr.alloc (.cells news.toArray e)) base t o.type e i z size bytes ht hi hz hsize hby hzs hsz v n xs (hown.alloc _) ⟨wr.heap.size, 0, none⟩ m c news hl hn h1 h63 hbytes (by simp; omega)
  unfold Oper.wp execOp
  simp only [ho, resolve, invoke, builtin, Sem.run_bind, Sem.run_pure, Result.andThen_ok, List.map_toArray, List.map_cons, List.map_nil, hs, hx, hrun]
  have hlt := hown.lt
  have hsize' : wr.heap.size < w'.heap.size := by have := h3.size; simp at this; omega
  have hg : wr.grownBy w' v.ownBlock := ⟨h3.os, h3.tape, h3.output, by omega, fun k hk hne => (h3.block k (by simp; omega) hne).trans (Below.heap_alloc _ _ _ hk)⟩
  refine h v' w' h2 (hb.grown hg (by omega) (fun k hk => by have := (hlt k hk).1; omega)) hg ?_ hsize'
  rcases h5 with h5 | h5
  · exact .inl h5
  · exact .inr ⟨_, h5, by simp⟩
theorem wpList_append_new {P : Program} (wr : World) (e : TypeId) (news : List Value) {ops : Array Oper} {rest : List Oper} {o : Oper} {a : Act} {Q : Exit → Act → World → Prop} (hgd : o.guard = none) (s x : Operand) (t : TypeId)
    (ho : o.op = .call { callee := .builtin .append, args := #[s, x], argTypes := #[t, t] })
    (base size bytes : Nat) (z : Value) (hinfo : (P.info? e).map (fun i => (i.zero, i.size, i.bytes)) = some (some z, size, bytes)) (ht : P.underlying t = some (.slice e)) (hzs : z.cells.size = size) (hsz : 0 < size)
    (v : Value) (n : Nat) (xs : List Value) (hs : a.eval s = v) (hown : wr.ownsRow base e size v n xs)
    (m c : Nat) (hx : a.eval x = .slice (some ⟨wr.heap.size, 0, none⟩) m c) (hl : news.length = m * size) (h1 : ∀ u ∈ news, u.oneCell' = true)
    (h63 : n + m ≤ maxLen) (hbytes : (n + m) * bytes ≤ 140737488355328) (B : Nat) (w0 : World) (hb : Below B w0 wr) (hB : B ≤ base) (hbase : base ≤ wr.heap.size)
    (h : ∀ v' w', w'.ownsRow base e size v' (n + m) (xs ++ news) → Below B w0 w' → wr.grownBy w' v.ownBlock → (v'.ownBlock = v.ownBlock ∨ ∃ g, v'.ownBlock = some g ∧ wr.heap.size ≤ g) → wr.heap.size < w'.heap.size → wpList P ops Q rest (a.put o.dst v') w') :
    wpList P ops Q (o :: rest) a (wr.alloc (.cells news.toArray e)) :=
  wpList_plain hgd fun _ hK => wp_append_new wr e news s x t ho base size bytes z hinfo ht hzs hsz v n xs hs hown m c hx hl h1 h63 hbytes B w0 hb hB hbase fun v' w' h2 h3 h4 h5 h6 => hK _ _ (h v' w' h2 h3 h4 h5 h6)
theorem step_append_new {P : Program} (wr : World) (e : TypeId) (news : List Value) {ops : Array Oper} {o : Oper} {a : Act} {K : Act → World → Prop} {Q : Exit → Act → World → Prop} {E : Prop} (hgd : o.guard = none) (s x : Operand) (t : TypeId)
    (ho : o.op = .call { callee := .builtin .append, args := #[s, x], argTypes := #[t, t] })
    (base size bytes : Nat) (z : Value) (hinfo : (P.info? e).map (fun i => (i.zero, i.size, i.bytes)) = some (some z, size, bytes)) (ht : P.underlying t = some (.slice e)) (hzs : z.cells.size = size) (hsz : 0 < size)
    (v : Value) (n : Nat) (xs : List Value) (hs : a.eval s = v) (hown : wr.ownsRow base e size v n xs)
    (m c : Nat) (hx : a.eval x = .slice (some ⟨wr.heap.size, 0, none⟩) m c) (hl : news.length = m * size) (h1 : ∀ u ∈ news, u.oneCell' = true)
    (h63 : n + m ≤ maxLen) (hbytes : (n + m) * bytes ≤ 140737488355328) (B : Nat) (w0 : World) (hb : Below B w0 wr) (hB : B ≤ base) (hbase : base ≤ wr.heap.size)
    (h : ∀ v' w', w'.ownsRow base e size v' (n + m) (xs ++ news) → Below B w0 w' → wr.grownBy w' v.ownBlock → (v'.ownBlock = v.ownBlock ∨ ∃ g, v'.ownBlock = some g ∧ wr.heap.size ≤ g) → wr.heap.size < w'.heap.size → K (a.put o.dst v') w') :
    if Region.wanted o (yielded ops a.tmps) = true then Oper.wp P o a (wr.alloc (.cells news.toArray e)).drew K Q else E := by
  have hw : Region.wanted o (yielded ops a.tmps) = true := by simp [Region.wanted, hgd]
  rw [if_pos hw]
  refine wp_append_new wr.drew e news s x t ho base size bytes z hinfo ht hzs hsz v n xs hs hown m c hx hl h1 h63 hbytes B w0 hb.drew hB hbase fun v' w' h2 h3 h4 h5 h6 => h v' w' h2 h3 ⟨h4.os, h4.tape, h4.output, h4.size, h4.block⟩ h5 h6
theorem info_byte : (Tryd.prog.info? 5).map (fun i => (i.zero, i.size, i.bytes)) = some (some (.int .u8 0), 1, 1) := by kernel_rfl
end Go.Proofs.YtcjafcbekegmlaaDoor

namespace Go.Proofs.YtcjafcbekegmlaaDoor
set_option linter.unusedVariables false
open Go.RowKit Go.Instr
section
variable {κ : Type} {kv : κ → Value}
def MapIs (w : World) (kv : κ → Value) (b : Nat) (l : List (κ × Value)) : Prop :=
  ∃ E clock, w.heap[b]? = some (.map E clock) ∧ E.toList.map (fun e => (e.key, e.val)) = l.map (fun x => (kv x.1, x.2))
theorem MapIs.kept {w w' : World} {b : Nat} {l : List (κ × Value)} (hm : MapIs w kv b l) (h : w'.heap[b]? = w.heap[b]?) : MapIs w' kv b l := by
  obtain ⟨E, clock, hb, hE⟩ := hm
  exact ⟨E, clock, h.trans hb, hE⟩
theorem MapIs.lt {w : World} {b : Nat} {l : List (κ × Value)} (hm : MapIs w kv b l) : b < w.heap.size := by
  obtain ⟨E, clock, hb, _⟩ := hm
  rcases Nat.lt_or_ge b w.heap.size with g | g
  · exact g
  · rw [Array.getElem?_eq_none g] at hb; cases hb
theorem MapIs.made (w : World) (c : Nat) : MapIs (w.alloc (.map #[] c)) kv w.heap.size [] := ⟨#[], c, heap_alloc_new w _, rfl⟩
end
def assoc {κ : Type} [DecidableEq κ] (k : κ) : List (κ × Value) → Nat → Option (Nat × Value)
  | [], _ => none
  | x :: l, i => if k = x.1 then some (i, x.2) else assoc k l (i + 1)
structure KeyType (P : Program) (kt : TypeId) {κ : Type} [DecidableEq κ] (kv : κ → Value) : Prop where
  check : ∀ e w k, (checkKey e 10000 kt (kv k)).run P w = .ok () w
  equal : ∀ w a b, (Op.equal kt (kv a) (kv b)).run P w = .ok (decide (a = b)) w
  now : ∃ u, P.underlying kt = some u ∧ ∀ k (E : List MapEntry) (l : List (κ × Value)) i, E.map (fun e => (e.key, e.val)) = l.map (fun x => (kv x.1, x.2)) → findNow u (kv k) E i = none ∨ findNow u (kv k) E i = some (assoc k l i)
  stays : ∀ k, sameBits 10000 (kv k) (kv k) = true
section
variable {P : Program} {kt : TypeId} {κ : Type} [DecidableEq κ] {kv : κ → Value}
theorem run_findAsking_is (h : KeyType P kt kv) (w : World) (k : κ) : ∀ (E : List MapEntry) (l : List (κ × Value)) (i : Nat), E.map (fun e => (e.key, e.val)) = l.map (fun x => (kv x.1, x.2)) → (findAsking kt (kv k) E i).run P w = .ok (assoc k l i) w
  | [], [], i, _ => by simp [findAsking, assoc]
  | [], _ :: _, _, hE => by simp at hE
  | _ :: _, [], _, hE => by simp at hE
  | e :: E, x :: l, i, hE => by
    simp only [List.map_cons, List.cons.injEq, Prod.mk.injEq] at hE
    obtain ⟨⟨h1, h2⟩, h3⟩ := hE
    have ih := run_findAsking_is h w k E l (i + 1) h3
    simp only [findAsking, Sem.run_bind, h1, h.equal, Result.andThen_ok, assoc]
    by_cases hk : k = x.1
    · simp [hk, h2]
    · simp [hk, ih]
theorem run_findKey_is (h : KeyType P kt kv) (w : World) (k : κ) (E : List MapEntry) (l : List (κ × Value)) (hE : E.map (fun e => (e.key, e.val)) = l.map (fun x => (kv x.1, x.2))) : (findKey kt (kv k) E).run P w = .ok (assoc k l 0) w := by
  obtain ⟨u, hu, hn⟩ := h.now
  have hf := run_findAsking_is h w k E l 0 hE
  unfold findKey
  simp only [Sem.run_bind, run_underlying hu, Result.andThen_ok]
  rcases hn k E l 0 hE with e | e
  · simp [e, hf]
  · simp [e]
theorem MapIs.look {w : World} {b : Nat} {l : List (κ × Value)} (hm : MapIs w kv b l) (h : KeyType P kt kv) (t el : TypeId) (ht : P.underlying t = some (.map kt el)) (z : Value) (hz : (zeroValue el).run P w = .ok z w) (k : κ) (ok : Bool) :
    (lookup t (.map (some b)) (kv k) ok).run P w = .ok (let r := match assoc k l 0 with | some (_, v) => (v, true) | none => (z, false); if ok then .tuple #[r.1, .bool r.2] else r.1) w := by
  obtain ⟨E, clock, hb, hE⟩ := hm
  have hf := run_findKey_is h w k E.toList l hE
  have hg : (getObj b : Sem Obj).run P w = .ok (.map E clock) w := by simp [getObj, Sem.run, hb]
  unfold lookup
  simp only [Sem.run_bind, run_underlying ht, Result.andThen_ok, hg, Sem.run_pure, h.check, hf]
  cases assoc k l 0 with
  | none => simp [hz]
  | some r => simp
def aput (k : κ) (v : Value) : List (κ × Value) → List (κ × Value)
  | [] => [(k, v)]
  | x :: l => if k = x.1 then (k, v) :: l else x :: aput k v l
theorem assoc_some {k : κ} : ∀ {l : List (κ × Value)} {i j : Nat} {v : Value}, assoc k l i = some (j, v) → ∃ n, j = i + n ∧ l[n]? = some (k, v) ∧ ∀ u, aput k u l = l.set n (k, u)
  | [], _, _, _, h => by simp [assoc] at h
  | x :: l, i, j, v, h => by
    simp only [assoc] at h
    by_cases hk : k = x.1
    · rw [if_pos hk] at h
      injection h with h
      injection h with h1 h2
      exact ⟨0, by omega, by simp [hk, ← h2], fun u => by simp [aput, hk]⟩
    · rw [if_neg hk] at h
      obtain ⟨n, h1, h2, h3⟩ := assoc_some h
      exact ⟨n + 1, by omega, by simpa using h2, fun u => by simp [aput, hk, h3 u]⟩
theorem assoc_none {k : κ} : ∀ {l : List (κ × Value)} {i : Nat}, assoc k l i = none → ∀ u, aput k u l = l ++ [(k, u)]
  | [], _, _, u => rfl
  | x :: l, i, h, u => by
    simp only [assoc] at h
    by_cases hk : k = x.1
    · rw [if_pos hk] at h; simp at h
    · rw [if_neg hk] at h
      simp [aput, hk, assoc_none h u]
theorem MapIs.store {w : World} {b : Nat} {l : List (κ × Value)} (hm : MapIs w kv b l) (h : KeyType P kt kv) (t el : TypeId) (ht : P.underlying t = some (.map kt el)) (k : κ) (v : Value) :
    ∃ w', (mapUpdate t (.map (some b)) (kv k) v).run P w = .ok () w' ∧ MapIs w' kv b (aput k v l) ∧ w.grownBy w' (some b) ∧ w'.heap.size = w.heap.size := by
  obtain ⟨E, clock, hb, hE⟩ := hm
  have hf := run_findKey_is h w k E.toList l hE
  have hg : (getObj b : Sem Obj).run P w = .ok (.map E clock) w := by simp [getObj, Sem.run, hb]
  have hlt : b < w.heap.size := by
    rcases Nat.lt_or_ge b w.heap.size with g | g
    · exact g
    · rw [Array.getElem?_eq_none g] at hb; cases hb
  have hset : ∀ (o' : Obj) (E' : Array MapEntry) (c' : Nat), o' = .map E' c' → (setObj b o' : Sem Unit).run P w = .ok () { w with heap := w.heap.setIfInBounds b o' } := by
    intro o' E' c' e; simp [setObj, Sem.run, hb]
  have fin : ∀ (E' : Array MapEntry) (c' : Nat), E'.toList.map (fun e => (e.key, e.val)) = (aput k v l).map (fun x => (kv x.1, x.2)) →
      MapIs { w with heap := w.heap.setIfInBounds b (.map E' c') } kv b (aput k v l) ∧ w.grownBy { w with heap := w.heap.setIfInBounds b (.map E' c') } (some b) ∧ ({ w with heap := w.heap.setIfInBounds b (.map E' c') } : World).heap.size = w.heap.size := by
    intro E' c' hE'
    refine ⟨⟨E', c', by simp [hlt], hE'⟩, ⟨rfl, rfl, rfl, by simp, fun j hj hne => ?_⟩, by simp⟩
    show (w.heap.setIfInBounds b _)[j]? = _
    rw [Array.getElem?_setIfInBounds_ne (fun e => hne (by rw [e]))]
  unfold mapUpdate
  simp only [Sem.run_bind, run_underlying ht, Result.andThen_ok, hg, h.check, hf]
  cases ha : assoc k l 0 with
  | none =>
    have := fin (E.push { key := kv k, val := v, born := clock }) (clock + 1) (by
      rw [assoc_none ha v]; simp [hE])
    exact ⟨_, hset _ _ _ rfl, this⟩
  | some r =>
    obtain ⟨j, u⟩ := r
    obtain ⟨n, hj, hn, hp⟩ := assoc_some ha
    have hjn : j = n := by omega
    subst hjn
    have hl : E.toList.length = l.length := by have := congrArg List.length hE; simpa using this
    have hnl : j < l.length := (List.getElem?_eq_some_iff.1 hn).1
    have hkey : ((E[j]?).map (·.key)).getD (kv k) = kv k := by
      have h1 := congrArg (fun x => x[j]?) hE
      simp only [List.getElem?_map, hn] at h1
      have h2 : j < E.size := by have e : E.toList.length = E.size := Array.length_toList; omega
      simp [Array.getElem?_eq_getElem h2] at h1 ⊢
      exact h1.1
    have := fin (E.modify j fun e => { e with key := kv k, val := v }) clock (by
      rw [hp v]
      apply List.ext_getElem?
      intro m
      have h1 := congrArg (fun x => x[m]?) hE
      simp only [List.getElem?_map] at h1
      by_cases hm : j = m
      · subst hm
        have h2 : j < E.size := by have e : E.toList.length = E.size := Array.length_toList; omega
        simp [Array.toList_modify, h2, hnl]
      · simp [Array.toList_modify, hm, List.getElem?_set_ne hm]
        simpa using h1)
    refine ⟨_, ?_, this⟩
    simp only [hkey, keyThatStays, h.stays, if_true]
    exact hset _ _ _ rfl
end
end Go.Proofs.YtcjafcbekegmlaaDoor

namespace Go.Proofs.YtcjafcbekegmlaaDoor
set_option linter.unusedVariables false
open Go.RowKit Go.Instr
def ss (k : List UInt8) : Value := .string ⟨k.toArray⟩
section
variable {P : Program} {kt : TypeId} {κ : Type} [DecidableEq κ] {kv : κ → Value}
def adel (k : κ) : List (κ × Value) → List (κ × Value)
  | [] => []
  | x :: l => if k = x.1 then l else x :: adel k l
theorem adel_some {k : κ} : ∀ {l : List (κ × Value)} {i j : Nat} {v : Value}, assoc k l i = some (j, v) → ∃ n, j = i + n ∧ n < l.length ∧ adel k l = l.eraseIdx n
  | [], _, _, _, h => by simp [assoc] at h
  | x :: l, i, j, v, h => by
    simp only [assoc] at h
    by_cases hk : k = x.1
    · rw [if_pos hk] at h
      injection h with h
      injection h with h1 h2
      exact ⟨0, by omega, by simp, by simp [adel, hk]⟩
    · rw [if_neg hk] at h
      obtain ⟨n, h1, h2, h3⟩ := adel_some h
      exact ⟨n + 1, by omega, by simpa using h2, by simp [adel, hk, h3]⟩
theorem adel_none {k : κ} : ∀ {l : List (κ × Value)} {i : Nat}, assoc k l i = none → adel k l = l
  | [], _, _ => rfl
  | x :: l, i, h => by
    simp only [assoc] at h
    by_cases hk : k = x.1
    · rw [if_pos hk] at h; simp at h
    · rw [if_neg hk] at h
      simp [adel, hk, adel_none h]
theorem map_erase {α β : Type} (f : α → β) : ∀ (l : List α) (n : Nat), (l.eraseIdx n).map f = (l.map f).eraseIdx n
  | [], _ => by simp
  | x :: l, 0 => by simp
  | x :: l, n + 1 => by simp [map_erase f l n]
theorem MapIs.drop {w : World} {b : Nat} {l : List (κ × Value)} (hm : MapIs w kv b l) (h : KeyType P kt kv) (t el : TypeId) (ht : P.underlying t = some (.map kt el)) (k : κ) (k2 ty : TypeId) :
    ∃ w', (Builtin.delete_ #[t, k2] ty #[.map (some b), kv k]).run P w = .ok (.tuple #[]) w' ∧ MapIs w' kv b (adel k l) ∧ w.grownBy w' (some b) ∧ w'.heap.size = w.heap.size := by
  obtain ⟨E, clock, hb, hE⟩ := hm
  have hf := run_findKey_is h w k E.toList l hE
  have hg : (getObj b : Sem Obj).run P w = .ok (.map E clock) w := by simp [getObj, Sem.run, hb]
  have hlt : b < w.heap.size := by
    rcases Nat.lt_or_ge b w.heap.size with g | g
    · exact g
    · rw [Array.getElem?_eq_none g] at hb; cases hb
  have hset : ∀ (E' : Array MapEntry) (c' : Nat), (setObj b (.map E' c') : Sem Unit).run P w = .ok () { w with heap := w.heap.setIfInBounds b (.map E' c') } := by
    intro E' c'; simp [setObj, Sem.run, hb]
  have fin : ∀ (E' : Array MapEntry) (c' : Nat), E'.toList.map (fun e => (e.key, e.val)) = (adel k l).map (fun x => (kv x.1, x.2)) →
      MapIs { w with heap := w.heap.setIfInBounds b (.map E' c') } kv b (adel k l) ∧ w.grownBy { w with heap := w.heap.setIfInBounds b (.map E' c') } (some b) ∧ ({ w with heap := w.heap.setIfInBounds b (.map E' c') } : World).heap.size = w.heap.size := by
    intro E' c' hE'
    refine ⟨⟨E', c', by simp [hlt], hE'⟩, ⟨rfl, rfl, rfl, by simp, fun j hj hne => ?_⟩, by simp⟩
    show (w.heap.setIfInBounds b _)[j]? = _
    rw [Array.getElem?_setIfInBounds_ne (fun e => hne (by rw [e]))]
  unfold Builtin.delete_
  simp only [Sem.run_bind, run_underlying ht, Result.andThen_ok, hg, h.check, hf, List.getElem?_toArray, List.getElem?_cons_zero, List.getElem?_cons_succ]
  cases ha : assoc k l 0 with
  | none =>
    have := fin E clock (by rw [adel_none ha]; exact hE)
    refine ⟨_, ?_, this⟩
    simp [hset]
  | some r =>
    obtain ⟨j, u⟩ := r
    obtain ⟨n, hj, hn, hp⟩ := adel_some ha
    have hjn : j = n := by omega
    subst hjn
    have hl : E.toList.length = l.length := by have := congrArg List.length hE; simpa using this
    have := fin (E.eraseIdxIfInBounds j) clock (by
      rw [hp, Array.toList_eraseIdxIfInBounds, map_erase, hE, map_erase])
    refine ⟨_, ?_, this⟩
    simp [hset]
end
theorem MapIs.len_run {P : Program} {κ : Type} {kv : κ → Value} {w : World} {b : Nat} {l : List (κ × Value)} (hm : MapIs w kv b l) {t k el : TypeId} (ht : P.underlying t = some (.map k el)) (ty : TypeId) : (Builtin.len_ #[t] ty #[.map (some b)]).run P w = .ok (.int .i64 (l.length : Int)) w := by
  obtain ⟨E, clock, hb, hE⟩ := hm
  have hg : (getObj b : Sem Obj).run P w = .ok (.map E clock) w := by simp [getObj, Sem.run, hb]
  have hl : E.size = l.length := by have := congrArg List.length hE; simpa using this
  unfold Builtin.len_
  simp [Sem.run_bind, run_underlying ht, hg, hl, goInt]
def lookB (D : List (List UInt8 × List UInt8)) (k : List UInt8) : Option (List UInt8) := match D with
  | [] => none
  | x :: l => if k = x.1 then some x.2 else lookB l k
def putB (D : List (List UInt8 × List UInt8)) (k v : List UInt8) : List (List UInt8 × List UInt8) := match D with
  | [] => [(k, v)]
  | x :: l => if k = x.1 then (k, v) :: l else x :: putB l k v
def Ents (w : World) : List (List UInt8 × List UInt8) → List (List UInt8 × Value) → Prop
  | [], [] => True
  | x :: D, y :: vs => y.1 = x.1 ∧ (∃ A c, y.2 = .slice A x.2.length c ∧ Reads w w.heap.size 1 A x.2.length (bvals x.2)) ∧ Ents w D vs
  | _, _ => False
theorem Ents.keep {w w' : World} : ∀ {D : List (List UInt8 × List UInt8)} {vs : List (List UInt8 × Value)}, (∀ A n l, Reads w w.heap.size 1 A n (bvals l) → Reads w' w'.heap.size 1 A n (bvals l)) → Ents w D vs → Ents w' D vs
  | [], [], _, _ => trivial
  | [], _ :: _, _, h => h.elim
  | _ :: _, [], _, h => h.elim
  | x :: D, y :: vs, hk, h => by
    obtain ⟨h1, ⟨A, c, h2, h3⟩, h4⟩ := h
    exact ⟨h1, ⟨A, c, h2, hk _ _ _ h3⟩, Ents.keep hk h4⟩
theorem Ents.look {w : World} (k : List UInt8) : ∀ {D : List (List UInt8 × List UInt8)} {vs : List (List UInt8 × Value)} (i : Nat), Ents w D vs →
    (lookB D k = none ∧ assoc k vs i = none) ∨ ∃ v j A c, lookB D k = some v ∧ assoc k vs i = some (j, .slice A v.length c) ∧ Reads w w.heap.size 1 A v.length (bvals v)
  | [], [], _, _ => .inl ⟨rfl, rfl⟩
  | [], _ :: _, _, h => h.elim
  | _ :: _, [], _, h => h.elim
  | x :: D, y :: vs, i, h => by
    obtain ⟨h1, ⟨A, c, h2, h3⟩, h4⟩ := h
    simp only [lookB, assoc, h1]
    by_cases hk : k = x.1
    · rw [if_pos hk, if_pos hk, h2]
      exact .inr ⟨x.2, i, A, c, rfl, rfl, h3⟩
    · rw [if_neg hk, if_neg hk]
      exact Ents.look k (i + 1) h4
theorem Ents.put {w : World} (k v : List UInt8) (A : Option Addr) (c : Nat) (hv : Reads w w.heap.size 1 A v.length (bvals v)) : ∀ {D : List (List UInt8 × List UInt8)} {vs : List (List UInt8 × Value)}, Ents w D vs → Ents w (putB D k v) (aput k (.slice A v.length c) vs)
  | [], [], _ => ⟨rfl, ⟨A, c, rfl, hv⟩, trivial⟩
  | [], _ :: _, h => h.elim
  | _ :: _, [], h => h.elim
  | x :: D, y :: vs, h => by
    obtain ⟨h1, h2, h4⟩ := h
    simp only [putB, aput, h1]
    by_cases hk : k = x.1
    · rw [if_pos hk, if_pos hk]
      exact ⟨rfl, ⟨A, c, rfl, hv⟩, h4⟩
    · rw [if_neg hk, if_neg hk]
      exact ⟨h1, h2, Ents.put k v A c hv h4⟩
theorem Ents.length {w : World} : ∀ {D : List (List UInt8 × List UInt8)} {vs : List (List UInt8 × Value)}, Ents w D vs → vs.length = D.length
  | [], [], _ => rfl
  | [], _ :: _, h => h.elim
  | _ :: _, [], h => h.elim
  | x :: D, y :: vs, h => by simp [Ents.length h.2.2]
structure BMap (w : World) (b : Nat) (D : List (List UInt8 × List UInt8)) : Prop where
  ex : ∃ vs, MapIs w ss b vs ∧ Ents w D vs
section
variable {w w' : World} {b : Nat} {D : List (List UInt8 × List UInt8)}
theorem MapIs.no_cell {κ : Type} {kv : κ → Value} {l : List (κ × Value)} (hm : MapIs w kv b l) (p : Addr) (hp : p.block = b) : w.cell? p = none := by
  obtain ⟨E, clock, hb, _⟩ := hm
  subst hp
  unfold World.cell?
  simp [hb]
theorem Reads.off_map {κ : Type} {kv : κ → Value} {l : List (κ × Value)} (hm : MapIs w kv b l) {B size n : Nat} {A : Option Addr} {xs : List Value} (hr : Reads w B size A n xs) (hB : B ≤ w.heap.size) (hg : w.grownBy w' (some b)) : Reads w' B size A n xs :=
  ⟨hr.1, fun hn => by
    obtain ⟨ad, e, hbl, hc⟩ := hr.2 hn
    refine ⟨ad, e, hbl, fun j u hu => ?_⟩
    have h1 := hc j u hu
    have hne : (ad.add j).block ≠ b := fun e2 => by rw [hm.no_cell _ e2] at h1; cases h1
    rw [World.cell?_of_block (hg.block (ad.add j).block (by rw [block_of_add]; omega) (by intro e; injection e with e; exact hne e))]
    exact h1⟩
theorem Ents.off_map {vs0 : List (List UInt8 × Value)} (hm : MapIs w ss b vs0) {D' : List (List UInt8 × List UInt8)} {vs : List (List UInt8 × Value)} (h : Ents w D' vs) (hg : w.grownBy w' (some b)) (hs : w'.heap.size = w.heap.size) : Ents w' D' vs :=
  h.keep fun A n l hr => by rw [hs]; exact hr.off_map hm (Nat.le_refl _) hg
theorem BMap.store (h : BMap w b D) (k v : List UInt8) (A : Option Addr) (c : Nat) (hv : Reads w w.heap.size 1 A v.length (bvals v)) : ∃ vs, MapIs w ss b vs ∧ ∀ w', MapIs w' ss b (aput k (.slice A v.length c) vs) → w.grownBy w' (some b) → w'.heap.size = w.heap.size → BMap w' b (putB D k v) := by
  obtain ⟨vs, h1, h2⟩ := h.ex
  exact ⟨vs, h1, fun w' a1 a2 a3 => ⟨_, a1, (h2.put k v A c hv).off_map h1 a2 a3⟩⟩
theorem BMap.made (w : World) (c : Nat) : BMap (w.alloc (.map #[] c)) w.heap.size [] := ⟨[], MapIs.made w c, trivial⟩
theorem BMap.lt (h : BMap w b D) : b < w.heap.size := by obtain ⟨vs, h1, _⟩ := h.ex; exact h1.lt
theorem BMap.next (h : BMap w b D) (hb : Below w.heap.size w w') : BMap w' b D := by
  obtain ⟨vs, h1, h2⟩ := h.ex
  exact ⟨vs, h1.kept (hb.block b h1.lt), h2.keep fun A n l hr => (hr.below hb).more hb.size⟩
theorem BMap.len (h : BMap w b D) {t k el : TypeId} (ht : Tryd.prog.underlying t = some (.map k el)) (ty : TypeId) : (Builtin.len_ #[t] ty #[.map (some b)]).run Tryd.prog w = .ok (.int .i64 (D.length : Int)) w := by
  obtain ⟨vs, h1, h2⟩ := h.ex
  rw [h1.len_run ht, h2.length]
end
end Go.Proofs.YtcjafcbekegmlaaDoor
