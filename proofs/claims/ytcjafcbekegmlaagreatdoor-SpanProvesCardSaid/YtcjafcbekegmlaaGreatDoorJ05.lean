import Derived.Test.YtcjafcbekegmlaaGreatDoorJ04
import Derived.Lib.AppendStr
set_option linter.unusedSimpArgs false
set_option linter.unusedVariables false
namespace Go.Proofs.YtcjafcbekegmlaaGreatDoor
set_option linter.unusedVariables false
open Go.RowKit Go.Instr
theorem run_arrayAt64 (w : World) (a : Addr) (c : Nat) : (Instr.arrayAt 182 (.slice (some a) 64 c)).run Tryz.prog w = .ok (.pointer (some a)) w := by
  unfold Instr.arrayAt
  simp [run_underlying Tryz.underlying182]
theorem still_load {P : Program} {ops : Array Oper} {o : Oper} {a : Act} {w : World} {K : Act → Prop} (hgd : o.guard = none) (ty : TypeId) (x : Operand) (ho : o.op = .load ty x) (v : Value)
    (hrun : (Instr.loadAt ty (a.eval x)).run P w = .ok v w) (h : K (a.put o.dst v)) : if Region.wanted o (yielded ops a.tmps) = true then o.still P a w K else K (a.put o.dst undef) := by
  have hw : Region.wanted o (yielded ops a.tmps) = true := by simp [Region.wanted, hgd]
  rw [if_pos hw]
  unfold Oper.still execOp
  simp only [ho, hrun, Sem.run_bind, Sem.run_pure, Result.andThen_ok, Oper.stillUpon]
  exact ⟨trivial, h⟩
def hsW (h : List UInt32) (l : List UInt8) : Nat → List UInt32
  | 0 => h
  | i + 1 => blockW (hsW h l i) ((l.drop (64 * i)).take 64)
theorem hsW_length (h : List UInt32) (l : List UInt8) (hh : h.length = 8) : ∀ i, (hsW h l i).length = 8
  | 0 => hh
  | i + 1 => blockW_length _ _ (hsW_length h l hh i)
theorem bvals_drop (l : List UInt8) (n : Nat) : bvals (l.drop n) = (bvals l).drop n := by simp [bvals, List.map_drop]
theorem bvals_take (l : List UInt8) (n : Nat) : bvals (l.take n) = (bvals l).take n := by simp [bvals, List.map_take]
structure BSt (w0 : World) (B gh g4 : Nat) (h : List UInt32) (z : Array Value) (w : World) : Prop where
  h : Blk w gh 180 (wvs h).toArray
  r : Blk w g4 180 z
  below : Below B w0 w
set_option maxRecDepth 100000 in
set_option maxHeartbeats 1000000 in
theorem blocks_loop (h : List UInt32) (hh : h.length = 8) (l : List UInt8) (hl : l.length ≤ 1000000) (A : Option Addr) (c : Nat) (hc : l.length ≤ c) (w0 : World) (B gh g4 : Nat) (z : Array Value) (hS : BSt w0 B gh g4 h z w0) (hB : B ≤ gh) (hne : g4 ≠ gh) (hT : Tbl w0) (hB0 : 0 < B)
    (HR : Reads w0 B 1 A l.length (bvals l))
    (Q : Exit → Act → World → Prop) (p4 : Value)
    (hQ : ∀ (s0 s3 s5 s6 s7 s8 s9 s10 s11 s12 s13 s14 s15 s16 s17 s18 s19 : Value) (A' : Option Addr) (n' c' : Nat) (w2 : World), BSt w0 B gh g4 (hsW h l (l.length / 64)) z w2 → Reads w2 B 1 A' n' (bvals (l.drop (64 * (l.length / 64)))) → n' ≤ c' → Q (.exit 0) { tmps := #[s0, .slice A' n' c', .pointer (some ⟨gh, 0, none⟩), s3, p4, s5, s6, s7, s8, s9, s10, s11, s12, s13, s14, s15, s16, s17, s18, s19], defers := [] } w2)
    (s0 s3 s5 s6 s7 s8 s9 s10 s11 s12 s13 s14 s15 s16 s17 s18 s19 : Value) :
    Code.wp Tryz.prog (.loop (loopAt Tryz.f155 0)) Q { tmps := #[s0, .slice A l.length c, .pointer (some ⟨gh, 0, none⟩), s3, p4, s5, s6, s7, s8, s9, s10, s11, s12, s13, s14, s15, s16, s17, s18, s19], defers := [] } w0 := by
  have HQ := Lib.hid hQ
  clear hQ
  refine wp_loop_ghost_k (fun k a wr => ∀ Φ : Act → Prop, (∀ (s0 s3 s5 s6 s7 s8 s9 s10 s11 s12 s13 s14 s15 s16 s17 s18 s19 : Value) (i : Nat) (Ai : Option Addr) (ni ci : Nat), (ni + 64 * i = l.length ∧ k = ni ∧ ni ≤ ci ∧ BSt w0 B gh g4 (hsW h l i) z wr ∧ Reads wr B 1 Ai ni (bvals (l.drop (64 * i)))) → Φ { tmps := #[s0, .slice Ai ni ci, .pointer (some ⟨gh, 0, none⟩), s3, p4, s5, s6, s7, s8, s9, s10, s11, s12, s13, s14, s15, s16, s17, s18, s19], defers := [] }) → Φ a) (l.length) ?_ ?_
  · refine fun Φ hΦ => hΦ _ _ _ _ _ _ _ _ _ _ _ _ _ _ _ _ _ (0) (A) (l.length) (c) ?_
    exact ⟨by omega, rfl, hc, hS, HR⟩
  · intro k1 a1 wr1 hI1 J1 K1 hJ1 hK1
    refine hI1 (fun a => Code.wp _ _ _ a _) ?_
    clear hI1 a1
    intro s0 s1 s2 s3 s4 s5 s6 s7 s8 s9 s10 s11 s12 s13 s14 s15 s16 i Ai ni ci hrel
    show Code.wp _ _ _ _ _
    conv => arg 2; whnf
    obtain ⟨h1, hk, h2, hs, hr⟩ := hrel
    by_cases hi : 64 ≤ ni
    · obtain ⟨b, off, rfl, hbB, hcell⟩ := hr.form (by omega) (by omega)
      have hi1 : (64 : Int) ≤ ni := by omega
      have hi2 : (64 : Int) ≤ ci := by omega
      have hi3 : 64 ≤ ci := by omega
      have hlen : (l.drop (64 * i)).length = ni := by rw [List.length_drop]; omega
      have ht : ((l.drop (64 * i)).take 64).length = 64 := by rw [List.length_take]; omega
      have hrg : wr1.drew.rangeAt b off (bvals ((l.drop (64 * i)).take 64)) := fun j v hj => by
        have hjl : j < 64 := by have := (List.getElem?_eq_some_iff.1 hj).1; rw [bvals_length, ht] at this; exact this
        rw [bvals_take, List.getElem?_take_of_lt hjl] at hj
        obtain ⟨hj2, e⟩ := List.getElem?_eq_some_iff.1 hj
        have := hcell j hj2
        rw [e] at this
        exact this
      have hr2 : wr1.drew.rangeAt gh 0 (wvs (hsW h l i)) := fun j v hj => by
        rw [Nat.zero_add]
        exact (hs.h.cell j).trans (by simpa using hj)
      have L1 := Lib.hid (run_loadAt_mid (P := Tryz.prog) wr1.drew b off 182 _ _ hrg Tryz.underlying182 rfl (by rw [bvals_length, ht]; exact info_b64))
      have L2 := Lib.hid (run_loadAt_mid (P := Tryz.prog) wr1.drew gh 0 180 _ _ hr2 Tryz.underlying180 rfl (by rw [wvs_length, hsW_length h l hh i]; exact info_w8))
      have hcut := hr.cut (k := 64) (cap := ci) hi h2
      rw [Nat.mul_one, ← bvals_drop, List.drop_drop, show 64 * i + 64 = 64 * (i + 1) by omega] at hcut
      have E : Hid (hsW h l (i + 1) = blockW (hsW h l i) ((l.drop (64 * i)).take 64)) := Lib.hid rfl
      have HB64 := Lib.hid ht
      have H8 := Lib.hid (hsW_length h l hh i)
      have HBW := Lib.hid (blockW_length (hsW h l i) ((l.drop (64 * i)).take 64) (hsW_length h l hh i))
      have H := Lib.hid (And.intro h1 (And.intro hk (And.intro h2 (And.intro hs hcut))))
      have hat := fun w => run_arrayAt64 w ⟨b, off, none⟩ ci
      have htb : Hid (Tbl wr1.drew) := Lib.hid (hT.below (show Below B w0 wr1.drew from hs.below.drew) hB0)
      clear hr hcell hrg hr2 hlen ht hcut hs h1 hk h2
      generalize (l.drop (64 * i)).take 64 = bb at *
      generalize hsW h l i = hi0 at *
      go_wp2
      refine wp_region_still_tail 5 (by kernel_rfl) (by kernel_rfl) ?_
      simp only [List.take_succ_cons, List.take_zero, List.drop_succ_cons, List.drop_zero]
      refine wpStill_step (fun K hK => ?_)
      refine still_load rfl _ _ rfl _ L2.out ?_
      refine hK _ ?_
      clear hK K
      repeat still_step
      refine wpStill_step (fun K hK => ?_)
      refine still_load rfl _ _ rfl _ L1.out ?_
      refine hK _ ?_
      clear hK K
      refine wpStill_nil ?_
      change wpList _ _ _ _ _ wr1.drew
      have FS : Hid (∀ w2, Below wr1.heap.size wr1.drew w2 → Blk w2 gh 180 (wvs hi0).toArray ∧ Blk w2 g4 180 z ∧ Below B w0 w2) := Lib.hid (fun w2 hb2 => by
        obtain ⟨_, _, _, hs, _⟩ := H.out
        have hb2' : Below wr1.heap.size wr1 w2 := ⟨hb2.os, hb2.tape, hb2.output, hb2.size, hb2.block⟩
        exact ⟨hs.h.below hb2' hs.h.lt, hs.r.below hb2' hs.r.lt, hs.below.trans (hb2'.mono (by have := hs.h.lt; omega))⟩)
      have HRR : Hid (∀ w2, Below wr1.heap.size wr1.drew w2 → Reads w2 B 1 (if ci = 64 then some ⟨b, off, none⟩ else some ((⟨b, off, none⟩ : Addr).add 64)) (ni - 64) (bvals (l.drop (64 * (i + 1))))) := Lib.hid (fun w2 hb2 => by
        obtain ⟨_, _, _, hs, hr⟩ := H.out
        refine Reads.keep (w := wr1) ?_ (fun p hp => hb2.cell (by have := hs.h.lt; show p.block < wr1.heap.size; omega))
        exact hr)
      have HN := Lib.hid (And.intro H.out.1 (And.intro H.out.2.1 H.out.2.2.1))
      have IZ := Lib.hid (size_of8 HBW.out)
      have AZ := Lib.hid (wvs_all (blockW hi0 bb))
      have SZ : Hid ((wvs hi0).toArray.size = (wvs (blockW hi0 bb)).toArray.size) := Lib.hid (by simp [wvs_length, H8.out, HBW.out])
      have hsB := (FS.out wr1.drew (Below.refl _ _)).1.lt
      clear H L1 L2
      have HC := fun w3 h3 => sha_Block hi0 H8.out bb HB64.out w3 h3
      have HCC := Lib.hid HC
      clear HC
      generalize blockW hi0 bb = hj at *
      go_wp2_with fail
      refine (HCC.out _ htb.out).mono ?_
      rintro e w2 ⟨rfl, hb2⟩
      obtain ⟨k1', k2', k3'⟩ := FS.out w2 hb2
      have r2 := HRR.out w2 hb2
      have K2 := Lib.hid (And.intro k1' (And.intro k2' (And.intro k3' r2)))
      clear k1' k2' k3' r2 hb2 FS HRR
      by_cases h64 : ci = 64
      · go_wp2_with (refine wpList_store_row rfl 180 _ _ rfl gh _ rfl rfl _ _ K2.out.1 IZ.out SZ.out AZ.out ?_)
        refine Handed.intro (ni - 64) ?_ (hJ1 _ _ _ (fun Φ hΦ => hΦ _ _ _ _ _ _ _ _ _ _ _ _ _ _ _ _ _ (i + 1) (some ⟨b, off, none⟩) (ni - 64) (0) ?_))
        · have := HN.out.1
          have := HN.out.2.1
          show ni - 64 < k1
          omega
        · obtain ⟨n1, n2, n3⟩ := HN.out
          obtain ⟨k1', k2', k3', r2⟩ := K2.out
          rw [if_pos h64] at r2
          refine ⟨by omega, rfl, by omega, ⟨?_, ?_, ?_⟩, ?_⟩
          · rw [E.out]
            exact setRow_heap w2 _ _ _ _ _ k1'
          · exact (setRow_other w2 gh g4 _ hne).trans k2'
          · exact below_setRow k3' hB _
          · exact r2.keep fun p hp => World.cell?_of_block (setRow_other w2 gh p.block _ (by omega))
      · go_wp2_with (refine wpList_store_row rfl 180 _ _ rfl gh _ rfl rfl _ _ K2.out.1 IZ.out SZ.out AZ.out ?_)
        refine Handed.intro (ni - 64) ?_ (hJ1 _ _ _ (fun Φ hΦ => hΦ _ _ _ _ _ _ _ _ _ _ _ _ _ _ _ _ _ (i + 1) (some ⟨b, off + 64, none⟩) (ni - 64) (ci - 64) ?_))
        · have := HN.out.1
          have := HN.out.2.1
          show ni - 64 < k1
          omega
        · obtain ⟨n1, n2, n3⟩ := HN.out
          obtain ⟨k1', k2', k3', r2⟩ := K2.out
          rw [if_neg h64, Addr.add_mid] at r2
          refine ⟨by omega, rfl, by omega, ⟨?_, ?_, ?_⟩, ?_⟩
          · rw [E.out]
            exact setRow_heap w2 _ _ _ _ _ k1'
          · exact (setRow_other w2 gh g4 _ hne).trans k2'
          · exact below_setRow k3' hB _
          · exact r2.keep fun p hp => World.cell?_of_block (setRow_other w2 gh p.block _ (by omega))
    · have hi2 : ((64 : Int) ≤ ni) = False := by simp; omega
      have e : i = l.length / 64 := by omega
      rw [e] at hs hr
      have H := Lib.hid (And.intro hs (And.intro hr h2))
      clear hs hr h1 hk h2 e
      go_wp2
      exact HQ.out _ _ _ _ _ _ _ _ _ _ _ _ _ _ _ _ _ _ _ _ _ H.out.1 H.out.2.1 H.out.2.2
end Go.Proofs.YtcjafcbekegmlaaGreatDoor

namespace Go.Proofs.YtcjafcbekegmlaaGreatDoor
set_option linter.unusedVariables false
open Go.RowKit Go.Instr
theorem step_store_row {P : Program} {ops : Array Oper} {o : Oper} {a : Act} {w : World} {K : Act → World → Prop} {Q : Exit → Act → World → Prop} {E : Prop} (hgd : o.guard = none) (ty : TypeId) (x y : Operand) (ho : o.op = .store ty x y)
    (g : Nat) (cells : Array Value) (hx : a.eval x = .pointer (some ⟨g, 0, none⟩)) (hy : a.eval y = .agg cells)
    (t : TypeId) (old : Array Value) (hg : w.heap[g]? = some (.cells old t (0, 0))) (hi : (P.info? ty).map (·.size) = some cells.size) (hold : old.size = cells.size) (h1 : cells.all (·.oneCell') = true)
    (h : ∀ w', Hid (w' = w.setRow g cells) → K (a.put o.dst undef) w') : if Region.wanted o (yielded ops a.tmps) = true then Oper.wp P o a w K Q else E := by
  have hw : Region.wanted o (yielded ops a.tmps) = true := by simp [Region.wanted, hgd]
  rw [if_pos hw]
  exact wp_store_row ty x y ho g cells hx hy t old hg hi hold h1 (h _ (Lib.hid rfl))
theorem results_cell_tmp {P : Program} {fn : Func} {p q : Tmp} {ty : TypeId} (h : fn.results = #[.cell p ty, .tmp q]) (tmps : Array Value) (w : World) (g : Nat) (t : TypeId) (cs : Array Value) (fr : Nat × Nat) (d : TypeDesc)
    (hp : tmps.getD p undef = .pointer (some ⟨g, 0, none⟩)) (hg : w.heap[g]? = some (.cells cs t fr))
    (hu : P.underlying ty = some d) (hd : (match d with | .struct _ | .array _ _ => true | _ => false) = true) (hi : (P.info? ty).map (·.size) = some cs.size) :
    (results fn tmps).run P w = .ok (.tuple #[.agg cs, tmps.getD q undef]) w := by
  have hp' : tmps[p]?.getD undef = .pointer (some ⟨g, 0, none⟩) := by simpa using hp
  simp [results, h, hp', asAddr, run_loadVar_row w g t ty cs fr d hg hu hd hi]
theorem exec_load_row {P : Program} {ρ : Operand → Value} {o : Oper} {x : Operand} (w : World) (g : Nat) (ty : TypeId) (ho : o.op = .load ty x) (hx : ρ x = .pointer (some ⟨g, 0, none⟩)) {cs : Array Value} {t : TypeId} {d : TypeDesc} (hg : Blk w g t cs)
    (hu : P.underlying ty = some d) (hd : (match d with | .struct _ | .array _ _ => true | _ => false) = true) (hi : (P.info? ty).map (·.size) = some cs.size) : (execOp ρ o).run P w = .ok (.value (.agg cs)) w := by
  unfold execOp
  simp only [ho, hx, Instr.loadAt, Instr.sureAddr, Sem.run_bind, Sem.run_pure, Result.andThen_ok, run_loadVar_row w g t ty cs (0, 0) d hg hu hd hi]
theorem own_keep9 {w w1 : World} {base e size n : Nat} {v : Value} {xs : List Value} (h : w.ownsRow base e size v n xs) (hb : ∀ k, v.ownBlock = some k → w1.heap[k]? = w.heap[k]?) : w1.ownsRow base e size v n xs := by
  refine ⟨h.1, ?_⟩
  rcases h.2 with h2 | ⟨g, cap, cur, rfl, hbg, hg, h3⟩
  · exact .inl h2
  · exact .inr ⟨g, cap, cur, rfl, hbg, (hb g rfl).trans hg, h3⟩
structure BEnd (w : World) (ws : Array Value) (z : Array Value) (A : Option Addr) (n : Nat) (rest : List UInt8) (w' : World) : Prop where
  h : Blk w' w.heap.size 180 ws
  r : Blk w' (w.heap.size + 1) 180 z
  below : Below w.heap.size w w'
  reads : Reads w' w.heap.size 1 A n (bvals rest)
theorem BEnd.drew {w : World} {ws z : Array Value} {A : Option Addr} {n : Nat} {rest : List UInt8} {w' : World} (h : BEnd w ws z A n rest w') : BEnd w ws z A n rest w'.drew := ⟨h.h, h.r, h.below.drew, h.reads⟩
theorem BEnd.grown {w : World} {ws z : Array Value} {A : Option Addr} {n : Nat} {rest : List UInt8} {w' w2 : World} (h : BEnd w ws z A n rest w') (hg : w'.grownBy w2 none) : BEnd w ws z A n rest w2 :=
  ⟨h.h.grown hg (by simp), h.r.grown hg (by simp), h.below.grown hg h.below.size (by simp), h.reads.grown hg h.below.size (by simp)⟩
theorem BEnd.set {w : World} {ws z : Array Value} {A : Option Addr} {n : Nat} {rest : List UInt8} {w' : World} (h : BEnd w ws z A n rest w') (z' : Array Value) : BEnd w ws z' A n rest (w'.setRow (w.heap.size + 1) z') :=
  ⟨(setRow_other w' _ _ _ (by omega)).trans h.h, setRow_heap w' _ _ _ _ _ h.r, below_setRow h.below (by omega) _, h.reads.keep fun p hp => World.cell?_of_block (setRow_other w' _ _ _ (by omega))⟩
def BlocksEnd (w : World) (h : List UInt32) (l : List UInt8) (e : Ending) (w' : World) : Prop :=
  ∃ v', e = .returned (.tuple #[.agg (wvs (hsW h l (l.length / 64))).toArray, v']) ∧ w'.ownsRow (w.heap.size + 2) 5 1 v' (l.drop (64 * (l.length / 64))).length (bvals (l.drop (64 * (l.length / 64)))) ∧ Below w.heap.size w w'
set_option maxRecDepth 100000 in
set_option maxHeartbeats 1000000 in
theorem sha_blocks (h : List UInt32) (hh : h.length = 8) (l : List UInt8) (hl : l.length ≤ 1000000) (A : Option Addr) (c : Nat) (hc : l.length ≤ c) (w : World) (hT : Tbl w) (HR : Reads w w.heap.size 1 A l.length (bvals l)) :
    Calls Tryz.prog 155 #[.agg (wvs h).toArray, .slice A l.length c] w (BlocksEnd w h l) := by
  have Hpos := hT.pos
  have I8 := size_of8 (hsW_length h l hh (l.length / 64))
  have A8 := wvs_all (hsW h l (l.length / 64))
  have S8 : (8 : Nat) = (wvs (hsW h l (l.length / 64))).toArray.size := by rw [List.size_toArray, wvs_length, hsW_length h l hh]
  have HP : Hid (∀ v' w', w'.ownsRow (w.heap.size + 2) 5 1 v' (l.drop (64 * (l.length / 64))).length (bvals (l.drop (64 * (l.length / 64)))) → Below w.heap.size w w' → BlocksEnd w h l (.returned (.tuple #[.agg (wvs (hsW h l (l.length / 64))).toArray, v'])) w') := Lib.hid (fun v' w' h1 h2 => ⟨v', rfl, h1, h2⟩)
  have HL := Lib.hid (fun Q p4 hQ => blocks_loop h hh l hl A c hc (((w.alloc (.cells (wvs h).toArray 180)).alloc (.cells #[.int .u32 0, .int .u32 0, .int .u32 0, .int .u32 0, .int .u32 0, .int .u32 0, .int .u32 0, .int .u32 0] 180))) w.heap.size w.heap.size (w.heap.size + 1) #[.int .u32 0, .int .u32 0, .int .u32 0, .int .u32 0, .int .u32 0, .int .u32 0, .int .u32 0, .int .u32 0] ⟨(Blk.new w _ _).alloc _, (by have := Blk.new (w.alloc (.cells (wvs h).toArray 180)) 180 #[.int .u32 0, .int .u32 0, .int .u32 0, .int .u32 0, .int .u32 0, .int .u32 0, .int .u32 0, .int .u32 0]; rw [World.size_alloc] at this; exact this), Below.refl _ _⟩ (Nat.le_refl _) (by omega) (hT.below (B := w.heap.size) (by go_grown) Hpos) Hpos ((HR.alloc (Nat.le_refl _) _).alloc (by simp) _) Q p4 hQ)
  have hb0 : Below w.heap.size w (((w.alloc (.cells (wvs h).toArray 180)).alloc (.cells #[.int .u32 0, .int .u32 0, .int .u32 0, .int .u32 0, .int .u32 0, .int .u32 0, .int .u32 0, .int .u32 0] 180))) := by go_grown
  have hrest : (l.drop (64 * (l.length / 64))).length ≤ 1000000 := by rw [List.length_drop]; omega
  generalize BlocksEnd w h l = PP at HP ⊢
  generalize l.drop (64 * (l.length / 64)) = rest at *
  generalize hsW h l (l.length / 64) = hs at *
  obtain ⟨i0, hi0, hz0, hz1, hz2⟩ := info_parts info_byte
  go_enter Tryz.func155, Tryz.ntmps155
  go_wp2_with fail
  refine HL.out _ _ ?_ _ _ _ _ _ _ _ _ _ _ _ _ _ _ _ _ _
  intro s0 s3 s5 s6 s7 s8 s9 s10 s11 s12 s13 s14 s15 s16 s17 s18 s19 A' n' c' w2 hs2 hr2 hc2
  have F0 : Hid (BEnd w (wvs hs).toArray #[.int .u32 0, .int .u32 0, .int .u32 0, .int .u32 0, .int .u32 0, .int .u32 0, .int .u32 0, .int .u32 0] A' n' rest w2.drew) := Lib.hid ⟨hs2.h, hs2.r, (hb0.trans hs2.below).drew, hr2⟩
  have hn' : n' = rest.length := by have := hr2.1; rw [bvals_length] at this; omega
  subst hn'
  have L2 := Lib.hid (run_loadAt_mid (P := Tryz.prog) w2.drew w.heap.size 0 180 (wvs hs) _ (fun j v hj => by rw [Nat.zero_add]; exact (hs2.h.cell j).trans (by simpa using hj)) Tryz.underlying180 rfl (by have := I8; rw [List.size_toArray] at this; exact this))
  have A8' := Lib.hid A8
  have I8' := Lib.hid I8
  have S8' : Hid ((#[.int .u32 0, .int .u32 0, .int .u32 0, .int .u32 0, .int .u32 0, .int .u32 0, .int .u32 0, .int .u32 0] : Array Value).size = (wvs hs).toArray.size) := Lib.hid S8
  clear hs2 hr2 hb0 HL A8 I8 S8
  go_wp2_with fail
  have F0' := F0.out
  clear F0
  have hd : w2.drew.heap.size = w2.drew.heap.size := rfl
  refine wp_region_held_drew (S := fun w' => Blk w' w.heap.size 180 (wvs hs).toArray) (by kernel_rfl) F0'.h (fun hHeld => ?_)
  generalize w2.drew = w3 at *
  have F0 := Lib.hid F0'
  generalize hws : (wvs hs).toArray = ws at *
  clear hws L2 F0' hd
  refine wpAnyH_take (i := 0) (oi := ⟨some 17, _, _, _, _, _⟩) (v := .agg ws) rfl (by kernel_rfl) (by kernel_rfl) (by kernel_rfl) (fun _ _ _ h => h) (Or.inl ⟨by rfl, fun w1 hS => ?_⟩) hHeld ?_
  · exact exec_load_row w1 w.heap.size 180 rfl rfl hS Tryz.underlying180 rfl I8'.out
  simp only [Act.put, List.setIfInBounds_toArray, List.set_cons_zero, List.set_cons_succ]
  refine wpAnyH_take (i := 1) (oi := ⟨some 18, _, _, _, _, _⟩) (v := .slice A' rest.length c') rfl (by kernel_rfl) (by kernel_rfl) (by kernel_rfl) (fun _ _ _ h => h) (Or.inl ⟨by rfl, fun w1 hS => by unfold execOp; rfl⟩) hHeld ?_
  simp only [Act.put, List.setIfInBounds_toArray, List.set_cons_zero, List.set_cons_succ]
  refine wpAnyH_ready (rs := [2]) (by kernel_rfl) (by simp) ?_
  refine AllReadyH.cons (o := ⟨some 19, _, _, _, _, _⟩) rfl (fun K hK => ?_) AllReadyH.nil
  · refine step_append_any _ rfl _ _ 71 rfl (w.heap.size + 2) 5 i0 (.int .u8 0) 1 1 Tryz.underlying71 hi0 hz0 hz1 hz2 rfl (by decide) (.slice none 0 0) 0 [] rfl (World.ownsRow_nil _ _ _ _) w.heap.size A' rest.length c' (bvals rest) rfl F0.out.reads (bvals_one _) (by simp only [maxLen]; omega) (by omega) F0.out.r.lt ?_
    intro v4 w4 own4 hg4 _
    have F4 := Lib.hid (F0.out.grown hg4)
    rw [List.nil_append, Nat.zero_add] at own4
    have O4 := Lib.hid own4
    clear own4 hg4 F0
    refine hK.out _ _ F4.out.h (fun hHeld => ?_)
    clear hK K
    simp only [Act.put, List.setIfInBounds_toArray, List.set_cons_zero, List.set_cons_succ]
    refine wpAnyH_ready (rs := [3]) (by kernel_rfl) (by simp) ?_
    refine AllReadyH.cons (o := ⟨none, _, _, _, _, _⟩) rfl (fun K hK => ?_) AllReadyH.nil
    refine step_store_row rfl 180 _ _ rfl (w.heap.size + 1) ws rfl rfl _ _ F4.out.r I8'.out S8'.out A8'.out ?_
    intro w5 h5
    have F5 := h5.out
    subst F5
    refine hK.out _ _ (F4.out.set ws).h (fun hHeld => ?_)
    clear hK K
    simp only [Act.put, List.setIfInBounds_toArray, List.set_cons_zero, List.set_cons_succ]
    refine wpAnyH_take (i := 4) (oi := ⟨some 5, _, _, _, _, _⟩) (v := v4) rfl (by kernel_rfl) (by kernel_rfl) (by kernel_rfl) (fun _ _ _ h => h) (Or.inl ⟨by rfl, fun w1 hS => by unfold execOp; rfl⟩) hHeld ?_
    simp only [Act.put, List.setIfInBounds_toArray, List.set_cons_zero, List.set_cons_succ]
    refine wpAnyH_done (by kernel_rfl) ?_ _
    have G : Hid (Blk (w4.setRow (w.heap.size + 1) ws) (w.heap.size + 1) 180 ws ∧ (w4.setRow (w.heap.size + 1) ws).ownsRow (w.heap.size + 2) 5 1 v4 rest.length (bvals rest) ∧ Below w.heap.size w (w4.setRow (w.heap.size + 1) ws)) := Lib.hid ⟨(F4.out.set ws).r, own_keep9 O4.out fun k e => setRow_other w4 _ _ _ (by have := (O4.out.lt k e).1; omega), (F4.out.set ws).below⟩
    go_wp2
    refine bodyPost_ret (v := .tuple #[.agg ws, v4]) (results_cell_tmp (fn := Tryz.f155) (p := 4) (q := 5) (by rfl) _ _ (w.heap.size + 1) 180 ws (0, 0) _ rfl G.out.1 Tryz.underlying180 rfl I8'.out) rfl (HP.out v4 _ G.out.2.1 G.out.2.2)
end Go.Proofs.YtcjafcbekegmlaaGreatDoor

namespace Go.Proofs.YtcjafcbekegmlaaGreatDoor
set_option linter.unusedVariables false
open Go.RowKit Go.Instr
def hcells (h : List UInt32) (tail : Value) (n : Int) : Array Value := (wvs h ++ [tail, .int .i64 n]).toArray
theorem sha_New (w : World) :
    Calls Tryz.prog 138 #[] w fun e w' => ∃ g, e = .returned (.pointer (some ⟨g, 0, none⟩)) ∧ w.heap.size ≤ g ∧ Blk w' g 188 (hcells firstH (.slice none 0 0) 0) ∧ Below w.heap.size w w' := by
  have hf := sha_First w
  rw [firstH_wvs] at hf
  have HF := Lib.hid hf
  clear hf
  have HP : Hid (∀ w1, Below w.heap.size w w1 → Blk (w1.alloc (.cells #[.int .u32 1779033703, .int .u32 3144134277, .int .u32 1013904242, .int .u32 2773480762, .int .u32 1359893119, .int .u32 2600822924, .int .u32 528734635, .int .u32 1541459225, .slice none 0 0, .int .i64 0] 188)) w1.heap.size 188 (hcells firstH (.slice none 0 0) 0) ∧ w.heap.size ≤ w1.heap.size ∧ Below w.heap.size w (w1.alloc (.cells #[.int .u32 1779033703, .int .u32 3144134277, .int .u32 1013904242, .int .u32 2773480762, .int .u32 1359893119, .int .u32 2600822924, .int .u32 528734635, .int .u32 1541459225, .slice none 0 0, .int .i64 0] 188))) := Lib.hid (fun w1 hb => ⟨Blk.new _ _ _, hb.size, hb.alloc hb.size _⟩)
  generalize hcells firstH (.slice none 0 0) 0 = hc at *
  go_enter Tryz.func138, Tryz.ntmps138
  go_wp2_with fail
  refine HF.out.mono ?_
  rintro e w1 ⟨rfl, hb1⟩
  go_wp2
  go_ret
  exact ⟨_, rfl, (HP.out w1 hb1).2.1, (HP.out w1 hb1).1, (HP.out w1 hb1).2.2⟩
end Go.Proofs.YtcjafcbekegmlaaGreatDoor

namespace Go.Proofs.YtcjafcbekegmlaaGreatDoor
set_option linter.unusedVariables false
open Go.RowKit Go.Instr
theorem step_call {P : Program} {ops : Array Oper} {o : Oper} {a : Act} {w : World} {K : Act → World → Prop} {Q : Exit → Act → World → Prop} {E : Prop} (hgd : o.guard = none) (f : FuncId) (args : Array Value) (hrun : (execOp a.eval o).run P w = .ok (.enter f args) w)
    (post : Ending → World → Prop) (hc : Calls P f args w post) (h : ∀ e w', post e w' → ∃ v, e = .returned v ∧ K (a.put o.dst v) w') : if Region.wanted o (yielded ops a.tmps) = true then Oper.wp P o a w K Q else E := by
  have hw : Region.wanted o (yielded ops a.tmps) = true := by simp [Region.wanted, hgd]
  rw [if_pos hw]
  unfold Oper.wp
  rw [hrun, Oper.upon_enter]
  refine hc.mono fun e w' hp => ?_
  obtain ⟨v, rfl, hk⟩ := h e w' hp
  exact hk
theorem step_append_str {P : Program} {w : World} {ops : Array Oper} {o : Oper} {a : Act} {K : Act → World → Prop} {Q : Exit → Act → World → Prop} {E : Prop} (hgd : o.guard = none) (sl x : Operand) (t u : TypeId)
    (ho : o.op = .call { callee := .builtin .append, args := #[sl, x], argTypes := #[t, u] })
    (base : Nat) (e : TypeId) (i : TypeInfo) (ht : P.underlying t = some (.slice e)) (hu : P.underlying u = some .string) (hi : P.info? e = some i) (hz : i.zero = some (.int .u8 0))
    (hsize : i.size = 1) (hby : i.bytes = 1)
    (v : Value) (n : Nat) (xs : List Value) (hs : a.eval sl = v) (hown : w.ownsRow base e 1 v n xs) (s : ByteArray) (hx : a.eval x = .string s)
    (h63 : n + s.size ≤ maxLen) (hbytes : n + s.size ≤ 140737488355328) (hbase : base ≤ w.heap.size)
    (h : ∀ v' w', w'.ownsRow base e 1 v' (n + s.size) (xs ++ Lib.strCells s) → w.grownBy w' v.ownBlock → K (a.put o.dst v') w') : if Region.wanted o (yielded ops a.tmps) = true then Oper.wp P o a w K Q else E := by
  have hw : Region.wanted o (yielded ops a.tmps) = true := by simp [Region.wanted, hgd]
  rw [if_pos hw]
  obtain ⟨v', w', hr, h2, h3, h4⟩ := Lib.run_append_own_string (P := P) w base t u o.type e i ht hu hi hz hsize hby v n xs hown s h63 hbytes hbase
  unfold Oper.wp execOp
  simp only [ho, resolve, invoke, builtin, Sem.run_bind, Sem.run_pure, Result.andThen_ok, List.map_toArray, List.map_cons, List.map_nil, hs, hx, hr]
  exact h v' w' h2 h3
theorem hfacts {w : World} {g : Nat} {v0 v1 v2 v3 v4 v5 v6 v7 : Value} {tail n : Value} (h : Blk w g 188 #[v0, v1, v2, v3, v4, v5, v6, v7, tail, n]) :
    (w.cell? ⟨g, 0, none⟩ = some v0 ∧ w.cell? ⟨g, 1, none⟩ = some v1 ∧ w.cell? ⟨g, 2, none⟩ = some v2 ∧ w.cell? ⟨g, 3, none⟩ = some v3 ∧ w.cell? ⟨g, 4, none⟩ = some v4 ∧ w.cell? ⟨g, 5, none⟩ = some v5 ∧ w.cell? ⟨g, 6, none⟩ = some v6 ∧ w.cell? ⟨g, 7, none⟩ = some v7 ∧ w.cell? ⟨g, 8, none⟩ = some tail ∧ w.cell? ⟨g, 9, none⟩ = some n) ∧
    (w.frozen? ⟨g, 0, none⟩ = false ∧ w.frozen? ⟨g, 1, none⟩ = false ∧ w.frozen? ⟨g, 2, none⟩ = false ∧ w.frozen? ⟨g, 3, none⟩ = false ∧ w.frozen? ⟨g, 4, none⟩ = false ∧ w.frozen? ⟨g, 5, none⟩ = false ∧ w.frozen? ⟨g, 6, none⟩ = false ∧ w.frozen? ⟨g, 7, none⟩ = false ∧ w.frozen? ⟨g, 8, none⟩ = false ∧ w.frozen? ⟨g, 9, none⟩ = false) :=
  ⟨⟨h.cell 0, h.cell 1, h.cell 2, h.cell 3, h.cell 4, h.cell 5, h.cell 6, h.cell 7, h.cell 8, h.cell 9⟩, h.frozen 0, h.frozen 1, h.frozen 2, h.frozen 3, h.frozen 4, h.frozen 5, h.frozen 6, h.frozen 7, h.frozen 8, h.frozen 9⟩
theorem write_grown {w W1 w3 w4 : World} {g : Nat} (h1 : w.grownBy W1 (some g)) (h3 : W1.grownBy w3 none) (hb : Below w3.heap.size w3 w4) : w.grownBy w4 (some g) :=
  ⟨hb.os.trans (h3.os.trans h1.os), hb.tape.trans (h3.tape.trans h1.tape), hb.output.trans (h3.output.trans h1.output), Nat.le_trans h1.size (Nat.le_trans h3.size hb.size), fun k hk hne => (hb.block k (by have := h1.size; have := h3.size; omega)).trans ((h3.block k (by have := h1.size; omega) (by simp)).trans (h1.block k hk hne))⟩
theorem own_more {w : World} {b1 b2 e size n : Nat} {v : Value} {xs : List Value} (h : w.ownsRow b1 e size v n xs) (hb : b2 ≤ b1) : w.ownsRow b2 e size v n xs := by
  refine ⟨h.1, ?_⟩
  rcases h.2 with h2 | ⟨g, cap, cur, rfl, hbg, hg, h3⟩
  · exact .inl h2
  · exact .inr ⟨g, cap, cur, rfl, by omega, hg, h3⟩
theorem own_set {w : World} {b e size n g i : Nat} {v u : Value} {xs : List Value} (h : w.ownsRow b e size v n xs) (hne : v.ownBlock ≠ some g) : (w.setCell ⟨g, i, none⟩ u).ownsRow b e size v n xs :=
  own_keep9 h fun k e => Below.heap_setCell w ⟨g, i, none⟩ u k (fun e2 => hne (by rw [e, e2]))
theorem set9 {w : World} {g : Nat} {t : TypeId} {x0 x1 x2 x3 x4 x5 x6 x7 x8 x9 y0 y1 y2 y3 y4 y5 y6 y7 y8 : Value} (h : Blk w g t #[x0, x1, x2, x3, x4, x5, x6, x7, x8, x9]) : Blk (((((((((w.setCell ⟨g, 0, none⟩ y0).setCell ⟨g, 1, none⟩ y1).setCell ⟨g, 2, none⟩ y2).setCell ⟨g, 3, none⟩ y3).setCell ⟨g, 4, none⟩ y4).setCell ⟨g, 5, none⟩ y5).setCell ⟨g, 6, none⟩ y6).setCell ⟨g, 7, none⟩ y7).setCell ⟨g, 8, none⟩ y8) g t #[y0, y1, y2, y3, y4, y5, y6, y7, y8, x9] := by
  have h := h.set_ 0 y0
  simp only [List.setIfInBounds_toArray, List.set_cons_zero] at h
  have h := h.set_ 1 y1
  simp only [List.setIfInBounds_toArray, List.set_cons_zero, List.set_cons_succ] at h
  have h := h.set_ 2 y2
  simp only [List.setIfInBounds_toArray, List.set_cons_zero, List.set_cons_succ] at h
  have h := h.set_ 3 y3
  simp only [List.setIfInBounds_toArray, List.set_cons_zero, List.set_cons_succ] at h
  have h := h.set_ 4 y4
  simp only [List.setIfInBounds_toArray, List.set_cons_zero, List.set_cons_succ] at h
  have h := h.set_ 5 y5
  simp only [List.setIfInBounds_toArray, List.set_cons_zero, List.set_cons_succ] at h
  have h := h.set_ 6 y6
  simp only [List.setIfInBounds_toArray, List.set_cons_zero, List.set_cons_succ] at h
  have h := h.set_ 7 y7
  simp only [List.setIfInBounds_toArray, List.set_cons_zero, List.set_cons_succ] at h
  have h := h.set_ 8 y8
  simp only [List.setIfInBounds_toArray, List.set_cons_zero, List.set_cons_succ] at h
  exact h
theorem set9_own {w : World} {b e size n g : Nat} {v y0 y1 y2 y3 y4 y5 y6 y7 y8 : Value} {xs : List Value} (h : w.ownsRow b e size v n xs) (hne : v.ownBlock ≠ some g) : (((((((((w.setCell ⟨g, 0, none⟩ y0).setCell ⟨g, 1, none⟩ y1).setCell ⟨g, 2, none⟩ y2).setCell ⟨g, 3, none⟩ y3).setCell ⟨g, 4, none⟩ y4).setCell ⟨g, 5, none⟩ y5).setCell ⟨g, 6, none⟩ y6).setCell ⟨g, 7, none⟩ y7).setCell ⟨g, 8, none⟩ y8).ownsRow b e size v n xs :=
  (own_set (own_set (own_set (own_set (own_set (own_set (own_set (own_set (own_set h hne) hne) hne) hne) hne) hne) hne) hne) hne)
theorem set9_grown {w0 w : World} {g : Nat} {y0 y1 y2 y3 y4 y5 y6 y7 y8 : Value} (h : w0.grownBy w (some g)) : w0.grownBy (((((((((w.setCell ⟨g, 0, none⟩ y0).setCell ⟨g, 1, none⟩ y1).setCell ⟨g, 2, none⟩ y2).setCell ⟨g, 3, none⟩ y3).setCell ⟨g, 4, none⟩ y4).setCell ⟨g, 5, none⟩ y5).setCell ⟨g, 6, none⟩ y6).setCell ⟨g, 7, none⟩ y7).setCell ⟨g, 8, none⟩ y8) (some g) :=
  (grown_set0 (grown_set0 (grown_set0 (grown_set0 (grown_set0 (grown_set0 (grown_set0 (grown_set0 (grown_set0 h _ _) _ _) _ _) _ _) _ _) _ _) _ _) _ _) _ _)
def WriteEnd (w : World) (g : Nat) (l : List UInt8) (e : Ending) (w' : World) : Prop :=
  e = .returned (.tuple #[]) ∧ ∃ A c, Blk w' g 188 (hcells (hsW firstH l (l.length / 64)) (.slice A (l.drop (64 * (l.length / 64))).length c) l.length) ∧ w'.ownsRow w.heap.size 5 1 (.slice A (l.drop (64 * (l.length / 64))).length c) (l.drop (64 * (l.length / 64))).length (bvals (l.drop (64 * (l.length / 64)))) ∧ w.grownBy w' (some g)
set_option maxRecDepth 100000 in
set_option maxHeartbeats 2000000 in
theorem sha_Write (w : World) (g : Nat) (l : List UInt8) (hl : l.length ≤ 1000000) (hT : Tbl w) (hg : Blk w g 188 (hcells firstH (.slice none 0 0) 0)) (hg0 : 0 < g) :
    Calls Tryz.prog 139 #[.pointer (some ⟨g, 0, none⟩), .string ⟨l.toArray⟩] w (WriteEnd w g l) := by
  have hb : Blk w g 188 #[.int .u32 1779033703, .int .u32 3144134277, .int .u32 1013904242, .int .u32 2773480762, .int .u32 1359893119, .int .u32 2600822924, .int .u32 528734635, .int .u32 1541459225, .slice none 0 0, .int .i64 0] := hg
  have hlt := hg.lt
  obtain ⟨i0, hi0, hz0, hz1, hz2⟩ := info_parts info_byte
  obtain ⟨⟨c0, c1, c2, c3, c4, c5, c6, c7, c8, c9⟩, ⟨f0, f1, f2, f3, f4, f5, f6, f7, f8, f9⟩⟩ := hfacts hb
  have hlen : (l.length : Int) ≤ 1000000 := by omega
  have HB := Lib.hid hb
  have HT := Lib.hid hT
  clear hg hb hT
  go_enter Tryz.func139, Tryz.ntmps139
  go_wp2_with fail
  have B1 : Hid (Blk (w.setCell ⟨g, 9, none⟩ (.int .i64 l.length)) g 188 #[.int .u32 1779033703, .int .u32 3144134277, .int .u32 1013904242, .int .u32 2773480762, .int .u32 1359893119, .int .u32 2600822924, .int .u32 528734635, .int .u32 1541459225, .slice none 0 0, .int .i64 l.length] ∧ w.grownBy (w.setCell ⟨g, 9, none⟩ (.int .i64 l.length)) (some g) ∧ (w.setCell ⟨g, 9, none⟩ (.int .i64 l.length)).heap.size = w.heap.size) := Lib.hid ⟨HB.out.set_ 9 _, grown_set0 (World.grownBy.refl _ _) _ _, World.size_setCell _ _ _⟩
  clear c0 c1 c2 c3 c4 c5 c6 c7 c8 c9 f0 f1 f2 f3 f4 f5 f6 f7 f8 f9
  generalize w.setCell ⟨g, 9, none⟩ (.int .i64 l.length) = W1 at B1 ⊢
  obtain ⟨⟨c0, c1, c2, c3, c4, c5, c6, c7, c8, c9⟩, ⟨f0, f1, f2, f3, f4, f5, f6, f7, f8, f9⟩⟩ := hfacts B1.out.1
  obtain ⟨u0, u1, u2, u3, u4, u5, u6, u7, hu⟩ := eight (hsW_length firstH l rfl (l.length / 64))
  have HU := Lib.hid hu
  have HC : Hid (∀ A3 c3 w3, Tbl w3 → l.length ≤ c3 → Reads w3 w3.heap.size 1 A3 l.length (bvals l) → Calls Tryz.prog 155 #[.agg #[.int .u32 1779033703, .int .u32 3144134277, .int .u32 1013904242, .int .u32 2773480762, .int .u32 1359893119, .int .u32 2600822924, .int .u32 528734635, .int .u32 1541459225], .slice A3 l.length c3] w3 fun e w' => ∃ v', e = .returned (.tuple #[.agg #[.int .u32 (u0.toNat : Int), .int .u32 (u1.toNat : Int), .int .u32 (u2.toNat : Int), .int .u32 (u3.toNat : Int), .int .u32 (u4.toNat : Int), .int .u32 (u5.toNat : Int), .int .u32 (u6.toNat : Int), .int .u32 (u7.toNat : Int)], v']) ∧ w'.ownsRow (w3.heap.size + 2) 5 1 v' (l.drop (64 * (l.length / 64))).length (bvals (l.drop (64 * (l.length / 64)))) ∧ Below w3.heap.size w3 w') := Lib.hid (fun A3 c3 w3 h1 h2 h3 => (sha_blocks firstH rfl l hl A3 c3 h2 w3 h1 h3).mono (by
    rintro e w' ⟨v', he, h4, h5⟩
    rw [hu] at he
    exact ⟨v', he, h4, h5⟩))
  have HT1 : Hid (∀ w3, W1.grownBy w3 none → Tbl w3) := Lib.hid (fun w3 h3 => by
    have h1 := HT.out.grown B1.out.2.1 hg0
    exact fun i hi => (World.cell?_of_block (h3.block 0 h1.pos (by simp))).trans (h1 i hi))
  have HA1 : Hid (0 + (ByteArray.mk l.toArray).size ≤ maxLen) := Lib.hid (by show 0 + l.toArray.size ≤ 9223372036854775807; simp; omega)
  have HA2 : Hid (0 + (ByteArray.mk l.toArray).size ≤ 140737488355328) := Lib.hid (by show 0 + l.toArray.size ≤ 140737488355328; simp; omega)
  have HP : Hid (∀ A c w', Blk w' g 188 #[.int .u32 (u0.toNat : Int), .int .u32 (u1.toNat : Int), .int .u32 (u2.toNat : Int), .int .u32 (u3.toNat : Int), .int .u32 (u4.toNat : Int), .int .u32 (u5.toNat : Int), .int .u32 (u6.toNat : Int), .int .u32 (u7.toNat : Int), .slice A (l.drop (64 * (l.length / 64))).length c, .int .i64 l.length] → w'.ownsRow w.heap.size 5 1 (.slice A (l.drop (64 * (l.length / 64))).length c) (l.drop (64 * (l.length / 64))).length (bvals (l.drop (64 * (l.length / 64)))) → w.grownBy w' (some g) → WriteEnd w g l (.returned (.tuple #[])) w') := Lib.hid (fun A c w' h1 h2 h3 => ⟨rfl, A, c, by rw [hu]; exact h1, h2, h3⟩)
  clear hu
  generalize WriteEnd w g l = PP at HP ⊢
  generalize (l.drop (64 * (l.length / 64))) = rest at *
  go_region_law (first | (refine step_append_str rfl _ _ 71 9 rfl W1.heap.size 5 i0 Tryz.underlying71 Tryz.underlying9 hi0 hz0 hz1 hz2 (.slice none 0 0) 0 [] rfl (World.ownsRow_nil _ _ _ _) ⟨l.toArray⟩ rfl HA1.out HA2.out (Nat.le_refl _) ?_; intro v3 w3 own3 hg3'; have hg3 : W1.grownBy w3 none := ⟨hg3'.os, hg3'.tape, hg3'.output, hg3'.size, hg3'.block⟩; have own3' : w3.ownsRow W1.heap.size 5 1 v3 l.length (bvals l) := (by simpa [ByteArray.size, Lib.strCells, bvals] using own3); have G3 := Lib.hid (And.intro hg3 own3'); obtain ⟨A3, c3', rfl, hr3, hcc3, _⟩ := own_form own3'; have R3 := Lib.hid (And.intro hr3 hcc3); obtain ⟨⟨c0, c1, c2, c3, c4, c5, c6, c7, c8, c9⟩, ⟨f0, f1, f2, f3, f4, f5, f6, f7, f8, f9⟩⟩ := hfacts (B1.out.1.grown hg3 (by simp)); clear own3 own3' hg3 hg3' hr3 hcc3) | (refine step_call rfl 155 #[.agg #[.int .u32 1779033703, .int .u32 3144134277, .int .u32 1013904242, .int .u32 2773480762, .int .u32 1359893119, .int .u32 2600822924, .int .u32 528734635, .int .u32 1541459225], .slice A3 l.length c3'] (by go_simp) _ (HC.out A3 c3' _ (HT1.out _ G3.out.1) R3.out.2 R3.out.1) ?_; rintro e w4 ⟨v4, rfl, own4, hb4⟩; refine ⟨_, rfl, ?_⟩; have G4 := Lib.hid (And.intro own4 hb4); obtain ⟨A4, c4', rfl, _, _, hge4⟩ := own_form own4; obtain ⟨⟨c0, c1, c2, c3, c4, c5, c6, c7, c8, c9⟩, ⟨f0, f1, f2, f3, f4, f5, f6, f7, f8, f9⟩⟩ := hfacts ((B1.out.1.grown G3.out.1 (by simp)).below hb4 (B1.out.1.grown G3.out.1 (by simp)).lt); have B4 := Lib.hid ((B1.out.1.grown G3.out.1 (by simp)).below hb4 (B1.out.1.grown G3.out.1 (by simp)).lt); have N4 : Hid (w.grownBy w4 (some g)) := Lib.hid (write_grown B1.out.2.1 G3.out.1 hb4); have L4 : Hid (w4.ownsRow w.heap.size 5 1 (.slice A4 rest.length c4') rest.length (bvals rest)) := Lib.hid (own_more own4 (by have := B1.out.2.2; have := G3.out.1.size; omega)); have N5 : Hid ((Value.slice A4 rest.length c4').ownBlock ≠ some g) := Lib.hid (fun e => by have := (own4.lt g e).1; have := B1.out.2.2; have := G3.out.1.size; omega); clear own4 hb4 hge4))
  all_goals go_wp2
  all_goals go_end0
  all_goals exact HP.out _ _ _ (set9 B4.out) (set9_own L4.out N5.out) (set9_grown N4.out)
end Go.Proofs.YtcjafcbekegmlaaGreatDoor
