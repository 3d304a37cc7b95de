import Derived.Test.YtnelhjfjkkdoaaaGreatDoorJ23
import Derived.Test.YtnelhjfjkkdoaaaGreatDoorJ06
import Derived.Test.YtnelhjfjkkdoaaaGreatDoorJ01
import Derived.BigQuiet
import Derived.Test.YtnelhjfjkkdoaaaGreatDoorJ08
set_option linter.unusedSimpArgs false
set_option linter.unusedVariables false
namespace Go.Proofs.YtnelhjfjkkdoaaaGreatDoor
open Go.RowKit Go.Instr
theorem reads_off {W W' : World} {size n : Nat} {A : Option Addr} {xs : List Value} {row : Option Nat} (h : Reads W W.heap.size size A n xs) (hg : W.grownBy W' row) (hne : ∀ a,A = some a → some a.block ≠ row) : Reads W' W'.heap.size size A n xs:=by
 refine ⟨h.1,fun hn => ?_⟩
 obtain ⟨ad,rfl,hlt,hc⟩:=h.2 hn
 refine ⟨ad,rfl,Nat.lt_of_lt_of_le hlt hg.size,fun j u hu => ?_⟩
 have hb : (ad.add j).block = ad.block:=by unfold Addr.add; split <;> rfl
 rw [← hc j u hu]
 exact World.cell?_of_block (hg.block _ (by rw [hb]; exact hlt) (by rw [hb]; exact hne ad rfl))
theorem blk_grown {w w' : World} {g t : Nat} {cs : Array Value} {row : Option Nat} (hb : Blk w g t cs) (hg : w.grownBy w' row) (hne : some g ≠ row) : Blk w' g t cs:=by
 unfold Blk
 rw [hg.block g hb.lt hne]
 exact hb
theorem blk_there {w : World} {g t : Nat} {cs : Array Value} (hb : Blk w g t cs) (n : Nat) (hn : n ≤ cs.size) : w.there g 0 n:=fun j hj=>by
 rw [Nat.zero_add]
 refine ⟨?_,hb.frozen j⟩
 rw [hb.cell,Array.getElem?_eq_getElem (by omega)]; rfl
theorem own_keepB {w w' : World} {base : Nat} {e : TypeId} {size n : Nat} {v : Value} {xs : List Value} {g t : Nat} {cs : Array Value} (h : w.ownsRow base e size v n xs) (hg : w.grownBy w' (some g)) (hb : Blk w g t cs) (hne : e ≠ t) : w'.ownsRow base e size v n xs:=h.kept hg (by
 have:=own_blk_ne h hb hne
 cases hv : v.ownBlock with
 | none=>exact .inl rfl
 | some k=>exact .inr (by rw [← hv]; exact this))
theorem step_store_all {P : Program} {ops : Array Oper} {o : Oper} {a : Act} {w : World} {K : Act → World → Prop} {Q : Exit → Act → World → Prop} {E : Prop} (hgd : o.guard = none) (ty : TypeId) (x y : Operand) (ho : o.op = .store ty x y)
  (b f : Nat) (cells : Array Value) (hx : a.eval x = .pointer (some ⟨b,f,none⟩)) (hy : a.eval y = .agg cells) (ht : w.there b f cells.size) (hi : (P.info? ty).map (·.size) = some cells.size) (h1 : cells.all (·.oneCell') = true)
  (h : K (a.put o.dst undef) (w.setCells b f cells.toList)) : if Region.wanted o (yielded ops a.tmps) = true then Oper.wp P o a w K Q else E:=by
 have hw : Region.wanted o (yielded ops a.tmps) = true:=by simp [Region.wanted,hgd]
 rw [if_pos hw]
 exact wp_store_mid ty x y ho b f cells hx hy ht hi h1 h
theorem wpList_store_as {P : Program} {ops : Array Oper} {rest : List Oper} {op : Oper} {a : Act} {w : World} {Q : Exit → Act → World → Prop} (hgd : op.guard = none) (ty : TypeId) (x y : Operand) (ho : op.op = .store ty x y)
  (b o : Nat) (cells : Array Value) (hx : a.eval x = .pointer (some ⟨b,o,none⟩)) (hy : a.eval y = .agg cells)
  (ht : w.there b o cells.size) (hi : (P.info? ty).map (·.size) = some cells.size) (h1 : cells.all (·.oneCell') = true) (W : World) (hW : w.setCells b o cells.toList = W)
  (h : wpList P ops Q rest (a.put op.dst undef) W) : wpList P ops Q (op :: rest) a w :=
 wpList_store_mid hgd ty x y ho b o cells hx hy ht hi h1 (by rw [hW]; exact h)
theorem range_of_blk {w : World} {g t : Nat} {xs : List Value} (h : Blk w g t xs.toArray) : w.rangeAt g 0 xs:=fun j v hv=>by
 rw [Nat.zero_add,h.cell]
 simpa using hv
theorem range_head {w : World} {g t : Nat} {cs : Array Value} {xs : List Value} (h : Blk w g t cs) (hx : cs.toList.take xs.length = xs) : w.rangeAt g 0 xs:=fun j v hv=>by
 rw [Nat.zero_add,h.cell]
 have hl : j < xs.length:=(List.getElem?_eq_some_iff.1 hv).1
 rw [← hx,List.getElem?_take,if_pos hl] at hv
 simpa using hv
theorem foldl_set : ∀ (pl Z pre : List Value),pl.length = Z.length → List.foldl (fun (cs : Array Value) (x : Value × Nat)=>cs.setIfInBounds x.snd x.fst) (pre ++ Z).toArray (pl.zipIdx pre.length) = (pre ++ pl).toArray
 | [],Z,pre,h=>by
  have : Z = []:=List.length_eq_zero_iff.1 (by simpa using h.symm)
  subst this
  rfl
 | v :: r, [],pre,h=>by simp at h
 | v :: r,z :: Z,pre,h=>by
  rw [List.zipIdx_cons,List.foldl_cons]
  have e : (pre ++ z :: Z).toArray.setIfInBounds pre.length v = ((pre ++ [v]) ++ Z).toArray:=by simp
  have ih:=foldl_set r Z (pre ++ [v]) (by simpa using h)
  rw [List.length_append] at ih
  show List.foldl _ ((pre ++ z :: Z).toArray.setIfInBounds pre.length v) _ = _
  rw [e]
  simpa using ih
theorem live_drew {w W : World} {L : List (Nat × Nat × Array Value)} (h : Hid (Live w W L)) : Hid (Live w W.drew L):=Lib.hid ⟨⟨h.out.b.os,h.out.b.tape,h.out.b.output,h.out.b.size,h.out.b.block⟩,h.out.l,h.out.d⟩
theorem results_one_cell {P : Program} {fn : Func} {tmps : Array Value} {w : World} {a : Tmp} {t : TypeId} {p : Addr} {v : Value} (hr : fn.results = #[.cell a t]) (ha : tmps.getD a undef = .pointer (some p)) (hv : (loadVar t p).run P w = .ok v w) :
  (results fn tmps).run P w = .ok v w:=by
 unfold results
 rw [hr]
 rw [Array.getD_eq_getD_getElem?] at ha
 simp [Sem.run_bind,ha,hv,asAddr]
end Go.Proofs.YtnelhjfjkkdoaaaGreatDoor
namespace Go.Proofs.YtnelhjfjkkdoaaaGreatDoor
open Go.RowKit
set_option maxHeartbeats 400000 in
theorem skip_next (h low : Nat) (w : World) (hl : low < h) (hh : h ≤ 1048576) :
  Calls Tryz.prog 92 #[.int .i64 h,.int .i64 low] w fun e w'=>e = .returned (.int .i64 (Skip.next h low)) ∧ w = w':=by
 go_enter Tryz.func92,Tryz.ntmps92
 go_wp2
 go_loop [5,6] (fun a s => ∃ f st at_ : Nat,f ≤ 22 ∧ a = .int .i64 at_ ∧ s = .int .i64 st ∧ 2 ≤ st ∧ st ≤ 2097152 ∧ 4194304 ≤ st * 2 ^ (f - 1) ∧ 1 ≤ f ∧ Skip.nxt f h low st at_ = Skip.next h low) (fun _ s=>(4194304 - (intOf s).toNat))
 case atStart=>exact ⟨22,2,h - 1,by omega,by rw [show ((h : Int) - 1) = ((h - 1 : Nat) : Int) from by omega],rfl,by omega,by omega,by decide,by omega,rfl⟩
 case round =>
  obtain ⟨f,st,at_,hf,rfl,rfl,h2,h3,h4,h5,hn⟩:=hrel
  have Hn:=Lib.hid hn
  clear hn
  obtain ⟨g,rfl⟩ : ∃ g,f = g + 1:=⟨f - 1,by omega⟩
  by_cases hc : h % st = 0
  ·by_cases hd : st ≤ h - low
   ·have H1 : Hid (Skip.nxt g h low (st * 2) (h - st) = Skip.next h low):=Lib.hid (by rw [← Hn.out]; exact (Skip.nxt_yes hc hd).symm)
    have hg : 1 ≤ g:=by
     rcases Nat.eq_zero_or_pos g with h0 | h0
     ·subst h0; simp at h4; omega
     ·exact h0
    have h6 : 4194304 ≤ (st * 2) * 2 ^ (g - 1):=by
     obtain ⟨k,rfl⟩ : ∃ k,g = k + 1:=⟨g - 1,by omega⟩
     simp only [Nat.add_sub_cancel] at h4 ⊢
     rw [Nat.pow_succ] at h4
     rw [Nat.mul_assoc,Nat.mul_comm 2]; exact h4
    have hb : ((h : Int) % (st : Int) == 0) = true:=by rw [beq_iff_eq]; omega
    clear h4 Hn
    go_wp2
    go_round
    case rel=>exact ⟨g,st * 2,h - st,by omega,by rw [show ((h : Int) - st) = ((h - st : Nat) : Int) from by omega],by go_num,by omega,by omega,h6,hg,H1.out⟩
    case measure=>simp [intOf]; omega
   ·have H1 : Hid (at_ = Skip.next h low):=Lib.hid (by rw [← Hn.out]; exact (Skip.nxt_no (fun ⟨_,x⟩=>hd x)).symm)
    have hb : ((h : Int) % (st : Int) == 0) = true:=by rw [beq_iff_eq]; omega
    clear h4 Hn
    go_wp2
    go_ret
    exact ⟨ret_int (by rw [H1.out]),rfl⟩
  ·have H1 : Hid (at_ = Skip.next h low):=Lib.hid (by rw [← Hn.out]; exact (Skip.nxt_no (fun ⟨x,_⟩=>hc x)).symm)
   have hb : ((h : Int) % (st : Int) == 0) = false:=by rw [beq_eq_false_iff_ne]; omega
   clear h4 Hn
   go_wp2
   go_ret
   exact ⟨ret_int (by rw [H1.out]),rfl⟩
set_option maxRecDepth 100000 in
set_option maxHeartbeats 4000000 in
theorem skip_Route (h low : Nat) (w : World) (hl : low ≤ h) (hh : h ≤ 1048576) :
  Calls Tryz.prog 47 #[.int .i64 h,.int .i64 low] w fun e w' => ∃ v,e = .returned (.tuple #[v,.int .i64 0]) ∧ w'.ownsRow w.heap.size 3 1 v (Skip.route h low).length (ints (Skip.route h low)) ∧ Below w.heap.size w w':=by
 obtain ⟨i0,hi0,hz0,hz1,hz2⟩:=info_parts info_int
 go_enter Tryz.func47,Tryz.ntmps47
 go_wp2
 refine wp_loop_ghost_k (fun k a wr => ∀ Φ : Act → Prop,(∀ (s2 s3 s4 s5 s8 s9 s10 s11 s12 s13 s14 s15 s16 s17 s18 s19 s20 s21 s22 s23 s24 s25 s26 s27 s28 s29 s30 : Value) (h' : Nat) (acc : List Nat) (o : Value),(low ≤ h' ∧ h' ≤ k ∧ k ≤ h ∧ acc.length ≤ h - k ∧ wr.ownsRow w.heap.size 3 1 o acc.length (ints acc) ∧ Below w.heap.size w wr ∧ acc ++ Skip.routeF k h' low = Skip.route h low) → Φ { tmps:=#[.int .i64 h,.int .i64 low,s2,s3,s4,s5,o,.int .i64 h',s8,s9,s10,s11,s12,s13,s14,s15,s16,s17,s18,s19,s20,s21,s22,s23,s24,s25,s26,s27,s28,s29,s30],defers := [] }) → Φ a) (h) ?_ ?_
 ·refine fun Φ hΦ=>hΦ _ _ _ _ _ _ _ _ _ _ _ _ _ _ _ _ _ _ _ _ _ _ _ _ _ _ _ (h) ([]) (_) ?_
  exact ⟨hl,Nat.le_refl _,Nat.le_refl _,by simp,World.ownsRow_nil _ _ _ _,Below.refl _ _,rfl⟩
 ·intro k1 a1 wr1 hI1 J1 K1 hJ1 hK1
  refine hI1 (fun a=>Code.wp _ _ _ a _) ?_
  clear hI1 a1
  intro s0 s1 s2 s3 s4 s5 s6 s7 s8 s9 s10 s11 s12 s13 s14 s15 s16 s17 s18 s19 s20 s21 s22 s23 s24 s25 s26 h' acc o hrel
  show Code.wp _ _ _ _ _
  obtain ⟨h1,h2,h3,h4,hown,hb,hacc⟩:=hrel
  have HA:=Lib.hid hacc
  clear hacc
  have hsz:=hb.size
  by_cases hlt : low < h'
  ·obtain ⟨f,rfl⟩ : ∃ f,k1 = f + 1:=⟨k1 - 1,by omega⟩
   have hnx:=Skip.next_lt h' low hlt
   have HB : Hid (acc ++ [Skip.next h' low] ++ Skip.routeF f (Skip.next h' low) low = Skip.route h low):=Lib.hid (by
    rw [← HA.out,Skip.routeF_yes hlt]; simp)
   clear HA
   go_wp2_with fail
   refine (skip_next h' low _ hlt (by omega)).mono ?_
   rintro e w1 ⟨rfl,rfl⟩
   go_wp2_with (at_builtin; refine wpList_append_new wr1 3 [.int .i64 (Skip.next h' low : Nat)] rfl _ _ 43 rfl w.heap.size 1 8 _ info_int Tryz.underlying43 rfl (by decide) _ _ _ rfl hown 1 1 rfl rfl (by simp [Value.oneCell']) (by simp only [maxLen]; omega) (by omega) w.heap.size w hb (Nat.le_refl _) hsz ?_; intro v1 w1 hown1 hb1 _ _ _)
   refine Handed.intro (f) ?_ (hJ1 _ _ _ (fun Φ hΦ=>hΦ _ _ _ _ _ _ _ _ _ _ _ _ _ _ _ _ _ _ _ _ _ _ _ _ _ _ _ (Skip.next h' low) (acc ++ [Skip.next h' low]) (_) ?_))
   ·omega
   ·exact ⟨hnx.1,by omega,by omega,by simp; omega,by simpa [ints_snoc] using hown1,hb1,HB.out⟩
  ·have HB : Hid (acc = Skip.route h low):=Lib.hid (by rw [← HA.out,Skip.routeF_no hlt]; simp)
   clear HA
   go_wp2
   go_ret2
   rw [← HB.out]
   exact ⟨_,rfl,hown,hb⟩
set_option maxHeartbeats 400000 in
set_option maxRecDepth 100000 in
theorem skip_Links (h : Nat) (w : World) (hl : 1 ≤ h) (hh : h ≤ 1048576) :
  Calls Tryz.prog 94 #[.int .i64 h] w fun e w' => ∃ v,e = .returned v ∧ w'.ownsRow w.heap.size 3 1 v (Skip.links h).length (ints (Skip.links h)) ∧ Below w.heap.size w w':=by
 go_enter Tryz.func94,Tryz.ntmps94
 go_wp2
 refine wp_scope_ghost 0 (fun k a wr => ∀ Φ : Act → Prop,(∀ (s1 s5 s6 s7 s8 s9 s10 s11 s12 s13 s14 s15 s16 s17 s18 s19 s20 s21 s22 s23 : Value) (st : Nat) (acc : List Nat) (o : Value),(2 ≤ st ∧ st ≤ 2097152 ∧ 4194304 ≤ st * 2 ^ (k - 1) ∧ 1 ≤ k ∧ acc.length + k ≤ 22 ∧ wr.ownsRow w.heap.size 3 1 o acc.length (ints acc) ∧ Below w.heap.size w wr ∧ acc ++ Skip.linksF k h st = Skip.links h) → Φ { tmps:=#[.int .i64 h,s1,.slice none 0 0,o,.int .i64 st,s5,s6,s7,s8,s9,s10,s11,s12,s13,s14,s15,s16,s17,s18,s19,s20,s21,s22,s23],defers := [] }) → Φ a) rfl ?_ ?_
 ·intro K1 hK1
  go_wp2_with fail
  go_step3
  by_cases hc : h % 2 = 0
  ·have hb : ((h : Int) % 2 == 0) = true:=by rw [beq_iff_eq]; omega
   have H1 : Hid ([h - 2] ++ Skip.linksF 21 h 4 = Skip.links h):=Lib.hid (by unfold Skip.links; rw [Skip.linksF_yes hc]; rfl)
   have e2 : ((h : Int) - 2) = ((h - 2 : Nat) : Int):=by omega
   have E2:=Lib.hid e2
   clear e2
   have hnil:=World.ownsRow_nil w w.heap.size 3 1
   go_wp2_with (at_builtin; refine wpList_append_new w 3 [.int .i64 ((h : Int) - 2)] rfl _ _ 43 rfl w.heap.size 1 8 _ info_int Tryz.underlying43 rfl (by decide) _ _ _ rfl hnil 1 1 rfl rfl (by simp [Value.oneCell']) (by simp only [maxLen]; omega) (by omega) w.heap.size w (Below.refl _ _) (Nat.le_refl _) (Nat.le_refl _) ?_; intro v1 w1 hown1 hb1 _ _ _)
   go_step3
   refine ⟨rfl,hK1 (21) _ _ (fun Φ hΦ=>hΦ _ _ _ _ _ _ _ _ _ _ _ _ _ _ _ _ _ _ _ _ (4) ([h - 2]) (v1) ?_)⟩
   exact ⟨by omega,by omega,by decide,by omega,by simp,by rw [E2.out] at hown1; simpa [ints] using hown1,hb1,H1.out⟩
  ·have hb : ((h : Int) % 2 == 0) = false:=by rw [beq_eq_false_iff_ne]; omega
   have H1 : Hid ([] = Skip.links h):=Lib.hid (by unfold Skip.links; rw [Skip.linksF_no hc])
   go_wp2
   simp only [Exit.jump]
   go_ret
   rw [← H1.out]
   exact ⟨_,rfl,World.ownsRow_nil _ _ _ _,Below.refl _ _⟩
 ·intro k1 a1 wr1 hI1 K1 hK1
  refine hI1 (fun a=>Code.wp _ _ _ a _) ?_
  clear hI1 a1
  intro s0 s1 s2 s3 s4 s5 s6 s7 s8 s9 s10 s11 s12 s13 s14 s15 s16 s17 s18 s19 st acc o hrel
  show Code.wp _ _ _ _ _
  obtain ⟨h1,h2,h3,h4,h5,hown,hb,hacc⟩:=hrel
  have HA:=Lib.hid hacc
  clear hacc
  have hsz:=hb.size
  obtain ⟨f,rfl⟩ : ∃ f,k1 = f + 1:=⟨k1 - 1,by omega⟩
  by_cases hc : h % st = 0
  ·have hb : ((h : Int) % (st : Int) == 0) = true:=by rw [beq_iff_eq]; omega
   have hle : st ≤ h:=Nat.le_of_dvd (by omega) (Nat.dvd_of_mod_eq_zero hc)
   have hg : 1 ≤ f:=by
    rcases Nat.eq_zero_or_pos f with h0 | h0
    ·subst h0; simp at h3; omega
    ·exact h0
   have h6 : 4194304 ≤ (st * 2) * 2 ^ (f - 1):=by
    obtain ⟨k,rfl⟩ : ∃ k,f = k + 1:=⟨f - 1,by omega⟩
    simp only [Nat.add_sub_cancel] at h3 ⊢
    rw [Nat.pow_succ] at h3
    rw [Nat.mul_assoc,Nat.mul_comm 2]; exact h3
   have H1 : Hid (acc ++ [h - st] ++ Skip.linksF f h (st * 2) = Skip.links h):=Lib.hid (by rw [← HA.out,Skip.linksF_yes hc]; simp)
   have e2 : ((h : Int) - st) = ((h - st : Nat) : Int):=by omega
   have E2:=Lib.hid e2
   clear e2 h3 HA
   go_wp2_with (at_builtin; refine wpList_append_new wr1 3 [.int .i64 ((h : Int) - st)] rfl _ _ 43 rfl w.heap.size 1 8 _ info_int Tryz.underlying43 rfl (by decide) _ _ _ rfl hown 1 1 rfl rfl (by simp [Value.oneCell']) (by simp only [maxLen]; omega) (by omega) w.heap.size w ‹_› (Nat.le_refl _) hsz ?_; intro v1 w1 hown1 hb1 _ _ _)
   go_step3
   refine ⟨rfl,hK1 (f) _ _ ?_ (fun Φ hΦ=>hΦ _ _ _ _ _ _ _ _ _ _ _ _ _ _ _ _ _ _ _ _ (st * 2) (acc ++ [h - st]) (v1) ?_)⟩
   ·omega
   ·exact ⟨by omega,by omega,h6,by omega,by simp; omega,by rw [E2.out] at hown1; simpa [ints_snoc] using hown1,hb1,H1.out⟩
  ·have hb : ((h : Int) % (st : Int) == 0) = false:=by rw [beq_eq_false_iff_ne]; omega
   have H1 : Hid (acc = Skip.links h):=Lib.hid (by rw [← HA.out,Skip.linksF_no hc]; simp)
   clear h3 HA
   go_wp2
   simp only [Exit.jump]
   go_ret
   rw [← H1.out]
   exact ⟨_,rfl,hown, ‹_›⟩
def linksV (h : Int) : List Nat:=if 1 ≤ h ∧ h ≤ 1048576 then Skip.links h.toNat else []
set_option maxHeartbeats 400000 in
theorem skip_Links_bad (h : Int) (w : World) (hb : h < 1 ∨ 1048576 < h) :
  Calls Tryz.prog 94 #[.int .i64 h] w fun e w'=>e = .returned (.slice none 0 0) ∧ w = w':=by
 by_cases h1 : h < 1
 ·go_enter Tryz.func94,Tryz.ntmps94
  go_wp2
  go_step3
  go_wp2
  rw [Exit.noGoto_ret]
  go_ret
  exact ⟨rfl,rfl⟩
 ·have h2 : 1048576 < h:=by omega
  go_enter Tryz.func94,Tryz.ntmps94
  go_wp2
  go_step3
  go_wp2
  rw [Exit.noGoto_ret]
  go_ret
  exact ⟨rfl,rfl⟩
theorem skip_Links_all (h : Int) (w : World) :
  Calls Tryz.prog 94 #[.int .i64 h] w fun e w' => ∃ v,e = .returned v ∧ w'.ownsRow w.heap.size 3 1 v (linksV h).length (ints (linksV h)) ∧ Below w.heap.size w w':=by
 by_cases hc : 1 ≤ h ∧ h ≤ 1048576
 ·obtain ⟨n,rfl⟩:=Int.eq_ofNat_of_zero_le (show 0 ≤ h by omega)
  rw [show linksV (n : Int) = Skip.links n from by unfold linksV; rw [if_pos hc]; rfl]
  exact skip_Links n w (by omega) (by omega)
 ·rw [show linksV h = [] from by unfold linksV; rw [if_neg hc]]
  refine (skip_Links_bad h w (by omega)).mono ?_
  rintro e w' ⟨rfl,rfl⟩
  exact ⟨_,rfl,World.ownsRow_nil _ _ _ _,Below.refl _ _⟩
end Go.Proofs.YtnelhjfjkkdoaaaGreatDoor
namespace Go.Proofs.YtnelhjfjkkdoaaaGreatDoor
open Go.RowKit Go.Instr
attribute [local go_sem] ba_get ByteArray.mk_append_mk
structure OkH (h : Hd) : Prop where
 par : h.par.length ≤ 9223372036854775807
 st : h.st.length ≤ 9223372036854775807
 rc : h.rc.length ≤ 9223372036854775807
 tx : h.tx.length ≤ 9223372036854775807
 mem : h.mem.length ≤ 9223372036854775807
 nxt : h.nxt.length ≤ 9223372036854775807
 sk : h.sk.length ≤ 9223372036854775807
 skl : ∀ s ∈ h.sk,s.length ≤ 9223372036854775807
theorem okH_of {h : Hd} (o : Hd.Ok h) : OkH h :=
 { par:=(by have:=o.par_le; omega),st:=(by have:=Hd.maybe_le o.st; omega),rc:=(by have:=Hd.maybe_le o.rc; omega),tx:=(by have:=o.tx; omega),mem:=(by have:=o.mem; omega),nxt:=(by have:=o.nxt; omega),sk:=(by have:=o.sk_le; omega),skl:=fun s hs=>(by have:=o.skl s hs; omega) }
theorem linksV_eq (h : Int) : linksV h = Hd.linksH h:=rfl
theorem len32 (s : List UInt8) : ((s.length : Int) == 32) = Hd.sumB s:=by
 unfold Hd.sumB
 rw [Bool.eq_iff_iff]
 simp
 omega
theorem hd_sum (s : List UInt8) (hs : s.length ≤ 9223372036854775807) (w : World) :
  Calls Tryz.prog 127 #[.string ⟨s.toArray⟩] w fun e w'=>e = .returned (.bool (Hd.sumB s)) ∧ w = w':=by
 have HE:=Lib.hid (len32 s)
 go_enter Tryz.func127,Tryz.ntmps127
 go_wp2
 go_ret
 exact ⟨ret_bool HE.out,rfl⟩
theorem hd_maybe (s : List UInt8) (hs : s.length ≤ 9223372036854775807) (w : World) :
  Calls Tryz.prog 130 #[.string ⟨s.toArray⟩] w fun e w'=>e = .returned (.bool (Hd.maybeB s)) ∧ w = w':=by
 have HS:=Lib.hid (fun W=>hd_sum s hs W)
 cases s with
 | nil =>
  go_enter Tryz.func130,Tryz.ntmps130
  go_wp2_with fail
  go_ret
  exact ⟨rfl,rfl⟩
 | cons x r =>
  have HE : Hid (Hd.maybeB (x :: r) = Hd.sumB (x :: r)):=Lib.hid rfl
  have hne : ((x :: r) == ([] : List UInt8)) = false:=rfl
  generalize x :: r = s at *
  generalize Hd.sumB s = b at *
  go_enter Tryz.func130,Tryz.ntmps130
  go_wp2_with fail
  refine (HS.out _).mono ?_
  rintro e w1 ⟨rfl,rfl⟩
  go_wp2_with fail
  go_ret
  exact ⟨ret_bool HE.out.symm,rfl⟩
theorem hd_odd (s : List UInt8) (hs : s.length ≤ 9223372036854775807) (w : World) :
  Calls Tryz.prog 128 #[.string ⟨s.toArray⟩] w fun e w'=>e = .returned (.bool (!Hd.sumB s)) ∧ w = w':=by
 have HS:=Lib.hid (fun W=>hd_sum s hs W)
 generalize Hd.sumB s = b at *
 go_enter Tryz.func128,Tryz.ntmps128
 go_wp2_with fail
 refine (HS.out _).mono ?_
 rintro e w1 ⟨rfl,rfl⟩
 go_wp2_with fail
 go_ret
 exact ⟨rfl,rfl⟩
theorem hd_in (n : Int) (w : World) :
  Calls Tryz.prog 126 #[.int .i64 n,.int .i64 1048576] w fun e w'=>e = .returned (.bool (Hd.inB n)) ∧ w = w':=by
 by_cases h0 : 0 ≤ n
 ·have h0' : (0 ≤ n) = True:=by simp; omega
  have HE : Hid (Hd.inB n = decide (n ≤ 1048576)):=Lib.hid (by unfold Hd.inB; rw [decide_eq_true h0]; rfl)
  clear h0
  go_enter Tryz.func126,Tryz.ntmps126
  go_wp2
  go_ret
  exact ⟨ret_bool HE.out.symm,rfl⟩
 ·have h0' : (0 ≤ n) = False:=by simp; omega
  have HE : Hid (Hd.inB n = false):=Lib.hid (by unfold Hd.inB; rw [decide_eq_false h0]; rfl)
  clear h0
  go_enter Tryz.func126,Tryz.ntmps126
  go_wp2
  go_ret
  exact ⟨ret_bool HE.out.symm,rfl⟩
set_option maxRecDepth 100000 in
theorem hd_numbers (w : World) (h : Hd) (A : Option Addr) (c : Nat) :
  Calls Tryz.prog 86 #[.agg #[.int .i64 h.hgt,.int .i64 h.epo,.int .i64 h.vw,.bool h.last,.string ⟨h.par.toArray⟩,.string ⟨h.st.toArray⟩,.string ⟨h.rc.toArray⟩,.string ⟨h.tx.toArray⟩,.string ⟨h.mem.toArray⟩,.string ⟨h.nxt.toArray⟩,.slice A h.sk.length c]] w (Ret w (.bool (Hd.numsB h))):=by
 have HP : Hid (∀ (b : Bool) w',Hd.numsB h = b → Below w.heap.size w w' → Ret w (.bool (Hd.numsB h)) (.returned (.bool b)) w'):=Lib.hid (fun b w' e h=>by rw [e]; exact ⟨rfl,h⟩)
 generalize Ret w (.bool (Hd.numsB h)) = P at HP ⊢
 have HX : Hid (Hd.numsB h = (Hd.inB h.hgt && Hd.inB h.epo && Hd.inB h.vw)):=Lib.hid rfl
 generalize Hd.numsB h = X at *
 have H0:=Lib.hid (fun W=>hd_in h.hgt W)
 have H1:=Lib.hid (fun W=>hd_in h.epo W)
 have H2:=Lib.hid (fun W=>hd_in h.vw W)
 generalize Hd.inB h.hgt = b0 at *
 generalize Hd.inB h.epo = b1 at *
 generalize Hd.inB h.vw = b2 at *
 go_enter Tryz.func86,Tryz.ntmps86
 go_upto_region 1 with fail
 have F0:=Live.ha (Lib.hid (Live.start w)) #[.int .i64 h.hgt,.int .i64 h.epo,.int .i64 h.vw,.bool h.last,.string ⟨h.par.toArray⟩,.string ⟨h.st.toArray⟩,.string ⟨h.rc.toArray⟩,.string ⟨h.tx.toArray⟩,.string ⟨h.mem.toArray⟩,.string ⟨h.nxt.toArray⟩,.slice A h.sk.length c] 65
 generalize w.alloc (.cells #[.int .i64 h.hgt,.int .i64 h.epo,.int .i64 h.vw,.bool h.last,.string ⟨h.par.toArray⟩,.string ⟨h.st.toArray⟩,.string ⟨h.rc.toArray⟩,.string ⟨h.tx.toArray⟩,.string ⟨h.mem.toArray⟩,.string ⟨h.nxt.toArray⟩,.slice A h.sk.length c] 65) = W0 at F0 ⊢
 generalize w.heap.size = xb at F0 ⊢
 have k0_0 : W0.cell? ⟨xb,0,none⟩ = some (.int .i64 h.hgt):=F0.out.cell 0 0 rfl rfl; have k0_1 : W0.cell? ⟨xb,1,none⟩ = some (.int .i64 h.epo):=F0.out.cell 0 1 rfl rfl; have k0_2 : W0.cell? ⟨xb,2,none⟩ = some (.int .i64 h.vw):=F0.out.cell 0 2 rfl rfl; have k0_3 : W0.cell? ⟨xb,3,none⟩ = some (.bool h.last):=F0.out.cell 0 3 rfl rfl; have k0_4 : W0.cell? ⟨xb,4,none⟩ = some (.string ⟨h.par.toArray⟩):=F0.out.cell 0 4 rfl rfl; have k0_5 : W0.cell? ⟨xb,5,none⟩ = some (.string ⟨h.st.toArray⟩):=F0.out.cell 0 5 rfl rfl; have k0_6 : W0.cell? ⟨xb,6,none⟩ = some (.string ⟨h.rc.toArray⟩):=F0.out.cell 0 6 rfl rfl; have k0_7 : W0.cell? ⟨xb,7,none⟩ = some (.string ⟨h.tx.toArray⟩):=F0.out.cell 0 7 rfl rfl; have k0_8 : W0.cell? ⟨xb,8,none⟩ = some (.string ⟨h.mem.toArray⟩):=F0.out.cell 0 8 rfl rfl; have k0_9 : W0.cell? ⟨xb,9,none⟩ = some (.string ⟨h.nxt.toArray⟩):=F0.out.cell 0 9 rfl rfl; have k0_10 : W0.cell? ⟨xb,10,none⟩ = some (.slice A h.sk.length c):=F0.out.cell 0 10 rfl rfl
 go_wp2_with fail
 refine (H0.out _).mono ?_
 rintro e w1 ⟨rfl,rfl⟩
 cases b0 with
 | false =>
  go_wp2_with fail
  exact HP.out _ _ HX.out F0.out.b
 | true =>
 go_wp2_with fail
 refine (H1.out _).mono ?_
 rintro e w1 ⟨rfl,rfl⟩
 cases b1 with
 | false =>
  go_wp2_with fail
  exact HP.out _ _ HX.out F0.out.b
 | true =>
 go_wp2_with fail
 refine (H2.out _).mono ?_
 rintro e w1 ⟨rfl,rfl⟩
 go_wp2_with fail
 exact HP.out _ _ (by rw [HX.out]; rfl) F0.out.b
set_option maxRecDepth 100000 in
theorem hd_first (w : World) (h : Hd) (o : OkH h) (A : Option Addr) (c : Nat) :
  Calls Tryz.prog 87 #[.agg #[.int .i64 h.hgt,.int .i64 h.epo,.int .i64 h.vw,.bool h.last,.string ⟨h.par.toArray⟩,.string ⟨h.st.toArray⟩,.string ⟨h.rc.toArray⟩,.string ⟨h.tx.toArray⟩,.string ⟨h.mem.toArray⟩,.string ⟨h.nxt.toArray⟩,.slice A h.sk.length c]] w (Ret w (.bool (Hd.firstB h))):=by
 have HP : Hid (∀ (b : Bool) w',Hd.firstB h = b → Below w.heap.size w w' → Ret w (.bool (Hd.firstB h)) (.returned (.bool b)) w'):=Lib.hid (fun b w' e h=>by rw [e]; exact ⟨rfl,h⟩)
 generalize Ret w (.bool (Hd.firstB h)) = P at HP ⊢
 have HX : Hid (Hd.firstB h = if 0 < h.hgt then Hd.sumB h.par else h.par.isEmpty && decide (h.epo = 0) && decide (h.vw = 0) && h.last):=Lib.hid rfl
 generalize Hd.firstB h = X at *
 have HS:=Lib.hid (fun W=>hd_sum h.par o.par W)
 generalize Hd.sumB h.par = b at *
 clear o
 by_cases h0 : 0 < h.hgt
 ·have h0' : (0 < h.hgt) = True:=by simp; omega
  have HX:=Lib.hid (HX.out.trans (if_pos h0))
  clear h0
  go_enter Tryz.func87,Tryz.ntmps87
  go_upto_region 1 with fail
  have F0:=Live.ha (Lib.hid (Live.start w)) #[.int .i64 h.hgt,.int .i64 h.epo,.int .i64 h.vw,.bool h.last,.string ⟨h.par.toArray⟩,.string ⟨h.st.toArray⟩,.string ⟨h.rc.toArray⟩,.string ⟨h.tx.toArray⟩,.string ⟨h.mem.toArray⟩,.string ⟨h.nxt.toArray⟩,.slice A h.sk.length c] 65
  generalize w.alloc (.cells #[.int .i64 h.hgt,.int .i64 h.epo,.int .i64 h.vw,.bool h.last,.string ⟨h.par.toArray⟩,.string ⟨h.st.toArray⟩,.string ⟨h.rc.toArray⟩,.string ⟨h.tx.toArray⟩,.string ⟨h.mem.toArray⟩,.string ⟨h.nxt.toArray⟩,.slice A h.sk.length c] 65) = W0 at F0 ⊢
  generalize w.heap.size = xb at F0 ⊢
  have k0_0 : W0.cell? ⟨xb,0,none⟩ = some (.int .i64 h.hgt):=F0.out.cell 0 0 rfl rfl; have k0_1 : W0.cell? ⟨xb,1,none⟩ = some (.int .i64 h.epo):=F0.out.cell 0 1 rfl rfl; have k0_2 : W0.cell? ⟨xb,2,none⟩ = some (.int .i64 h.vw):=F0.out.cell 0 2 rfl rfl; have k0_3 : W0.cell? ⟨xb,3,none⟩ = some (.bool h.last):=F0.out.cell 0 3 rfl rfl; have k0_4 : W0.cell? ⟨xb,4,none⟩ = some (.string ⟨h.par.toArray⟩):=F0.out.cell 0 4 rfl rfl; have k0_5 : W0.cell? ⟨xb,5,none⟩ = some (.string ⟨h.st.toArray⟩):=F0.out.cell 0 5 rfl rfl; have k0_6 : W0.cell? ⟨xb,6,none⟩ = some (.string ⟨h.rc.toArray⟩):=F0.out.cell 0 6 rfl rfl; have k0_7 : W0.cell? ⟨xb,7,none⟩ = some (.string ⟨h.tx.toArray⟩):=F0.out.cell 0 7 rfl rfl; have k0_8 : W0.cell? ⟨xb,8,none⟩ = some (.string ⟨h.mem.toArray⟩):=F0.out.cell 0 8 rfl rfl; have k0_9 : W0.cell? ⟨xb,9,none⟩ = some (.string ⟨h.nxt.toArray⟩):=F0.out.cell 0 9 rfl rfl; have k0_10 : W0.cell? ⟨xb,10,none⟩ = some (.slice A h.sk.length c):=F0.out.cell 0 10 rfl rfl
  go_wp2_with fail
  refine (HS.out _).mono ?_
  rintro e w1 ⟨rfl,rfl⟩
  go_wp2_with fail
  exact HP.out _ _ HX.out F0.out.b
 ·have h0' : (0 < h.hgt) = False:=by simp; omega
  have HX:=Lib.hid (HX.out.trans (if_neg h0))
  have hpe : h.par.isEmpty = (h.par == []):=by cases h.par <;> rfl
  have hp0 : decide (h.epo = 0) = (h.epo == 0):=rfl
  have hp1 : decide (h.vw = 0) = (h.vw == 0):=rfl
  rw [hpe,hp0,hp1] at HX
  clear h0 hpe hp0 hp1 HS
  cases e0 : h.par == [] with
  | false =>
   rw [e0] at HX
   go_enter Tryz.func87,Tryz.ntmps87
   go_upto_region 1 with fail
   have F0:=Live.ha (Lib.hid (Live.start w)) #[.int .i64 h.hgt,.int .i64 h.epo,.int .i64 h.vw,.bool h.last,.string ⟨h.par.toArray⟩,.string ⟨h.st.toArray⟩,.string ⟨h.rc.toArray⟩,.string ⟨h.tx.toArray⟩,.string ⟨h.mem.toArray⟩,.string ⟨h.nxt.toArray⟩,.slice A h.sk.length c] 65
   generalize w.alloc (.cells #[.int .i64 h.hgt,.int .i64 h.epo,.int .i64 h.vw,.bool h.last,.string ⟨h.par.toArray⟩,.string ⟨h.st.toArray⟩,.string ⟨h.rc.toArray⟩,.string ⟨h.tx.toArray⟩,.string ⟨h.mem.toArray⟩,.string ⟨h.nxt.toArray⟩,.slice A h.sk.length c] 65) = W0 at F0 ⊢
   generalize w.heap.size = xb at F0 ⊢
   have k0_0 : W0.cell? ⟨xb,0,none⟩ = some (.int .i64 h.hgt):=F0.out.cell 0 0 rfl rfl; have k0_1 : W0.cell? ⟨xb,1,none⟩ = some (.int .i64 h.epo):=F0.out.cell 0 1 rfl rfl; have k0_2 : W0.cell? ⟨xb,2,none⟩ = some (.int .i64 h.vw):=F0.out.cell 0 2 rfl rfl; have k0_3 : W0.cell? ⟨xb,3,none⟩ = some (.bool h.last):=F0.out.cell 0 3 rfl rfl; have k0_4 : W0.cell? ⟨xb,4,none⟩ = some (.string ⟨h.par.toArray⟩):=F0.out.cell 0 4 rfl rfl; have k0_5 : W0.cell? ⟨xb,5,none⟩ = some (.string ⟨h.st.toArray⟩):=F0.out.cell 0 5 rfl rfl; have k0_6 : W0.cell? ⟨xb,6,none⟩ = some (.string ⟨h.rc.toArray⟩):=F0.out.cell 0 6 rfl rfl; have k0_7 : W0.cell? ⟨xb,7,none⟩ = some (.string ⟨h.tx.toArray⟩):=F0.out.cell 0 7 rfl rfl; have k0_8 : W0.cell? ⟨xb,8,none⟩ = some (.string ⟨h.mem.toArray⟩):=F0.out.cell 0 8 rfl rfl; have k0_9 : W0.cell? ⟨xb,9,none⟩ = some (.string ⟨h.nxt.toArray⟩):=F0.out.cell 0 9 rfl rfl; have k0_10 : W0.cell? ⟨xb,10,none⟩ = some (.slice A h.sk.length c):=F0.out.cell 0 10 rfl rfl
   go_wp2_with fail
   exact HP.out _ _ HX.out F0.out.b
  | true =>
  cases e1 : h.epo == 0 with
  | false =>
   rw [e0,e1] at HX
   go_enter Tryz.func87,Tryz.ntmps87
   go_upto_region 1 with fail
   have F0:=Live.ha (Lib.hid (Live.start w)) #[.int .i64 h.hgt,.int .i64 h.epo,.int .i64 h.vw,.bool h.last,.string ⟨h.par.toArray⟩,.string ⟨h.st.toArray⟩,.string ⟨h.rc.toArray⟩,.string ⟨h.tx.toArray⟩,.string ⟨h.mem.toArray⟩,.string ⟨h.nxt.toArray⟩,.slice A h.sk.length c] 65
   generalize w.alloc (.cells #[.int .i64 h.hgt,.int .i64 h.epo,.int .i64 h.vw,.bool h.last,.string ⟨h.par.toArray⟩,.string ⟨h.st.toArray⟩,.string ⟨h.rc.toArray⟩,.string ⟨h.tx.toArray⟩,.string ⟨h.mem.toArray⟩,.string ⟨h.nxt.toArray⟩,.slice A h.sk.length c] 65) = W0 at F0 ⊢
   generalize w.heap.size = xb at F0 ⊢
   have k0_0 : W0.cell? ⟨xb,0,none⟩ = some (.int .i64 h.hgt):=F0.out.cell 0 0 rfl rfl; have k0_1 : W0.cell? ⟨xb,1,none⟩ = some (.int .i64 h.epo):=F0.out.cell 0 1 rfl rfl; have k0_2 : W0.cell? ⟨xb,2,none⟩ = some (.int .i64 h.vw):=F0.out.cell 0 2 rfl rfl; have k0_3 : W0.cell? ⟨xb,3,none⟩ = some (.bool h.last):=F0.out.cell 0 3 rfl rfl; have k0_4 : W0.cell? ⟨xb,4,none⟩ = some (.string ⟨h.par.toArray⟩):=F0.out.cell 0 4 rfl rfl; have k0_5 : W0.cell? ⟨xb,5,none⟩ = some (.string ⟨h.st.toArray⟩):=F0.out.cell 0 5 rfl rfl; have k0_6 : W0.cell? ⟨xb,6,none⟩ = some (.string ⟨h.rc.toArray⟩):=F0.out.cell 0 6 rfl rfl; have k0_7 : W0.cell? ⟨xb,7,none⟩ = some (.string ⟨h.tx.toArray⟩):=F0.out.cell 0 7 rfl rfl; have k0_8 : W0.cell? ⟨xb,8,none⟩ = some (.string ⟨h.mem.toArray⟩):=F0.out.cell 0 8 rfl rfl; have k0_9 : W0.cell? ⟨xb,9,none⟩ = some (.string ⟨h.nxt.toArray⟩):=F0.out.cell 0 9 rfl rfl; have k0_10 : W0.cell? ⟨xb,10,none⟩ = some (.slice A h.sk.length c):=F0.out.cell 0 10 rfl rfl
   go_wp2_with fail
   exact HP.out _ _ HX.out F0.out.b
  | true =>
  cases e2 : h.vw == 0 with
  | false =>
   rw [e0,e1,e2] at HX
   go_enter Tryz.func87,Tryz.ntmps87
   go_upto_region 1 with fail
   have F0:=Live.ha (Lib.hid (Live.start w)) #[.int .i64 h.hgt,.int .i64 h.epo,.int .i64 h.vw,.bool h.last,.string ⟨h.par.toArray⟩,.string ⟨h.st.toArray⟩,.string ⟨h.rc.toArray⟩,.string ⟨h.tx.toArray⟩,.string ⟨h.mem.toArray⟩,.string ⟨h.nxt.toArray⟩,.slice A h.sk.length c] 65
   generalize w.alloc (.cells #[.int .i64 h.hgt,.int .i64 h.epo,.int .i64 h.vw,.bool h.last,.string ⟨h.par.toArray⟩,.string ⟨h.st.toArray⟩,.string ⟨h.rc.toArray⟩,.string ⟨h.tx.toArray⟩,.string ⟨h.mem.toArray⟩,.string ⟨h.nxt.toArray⟩,.slice A h.sk.length c] 65) = W0 at F0 ⊢
   generalize w.heap.size = xb at F0 ⊢
   have k0_0 : W0.cell? ⟨xb,0,none⟩ = some (.int .i64 h.hgt):=F0.out.cell 0 0 rfl rfl; have k0_1 : W0.cell? ⟨xb,1,none⟩ = some (.int .i64 h.epo):=F0.out.cell 0 1 rfl rfl; have k0_2 : W0.cell? ⟨xb,2,none⟩ = some (.int .i64 h.vw):=F0.out.cell 0 2 rfl rfl; have k0_3 : W0.cell? ⟨xb,3,none⟩ = some (.bool h.last):=F0.out.cell 0 3 rfl rfl; have k0_4 : W0.cell? ⟨xb,4,none⟩ = some (.string ⟨h.par.toArray⟩):=F0.out.cell 0 4 rfl rfl; have k0_5 : W0.cell? ⟨xb,5,none⟩ = some (.string ⟨h.st.toArray⟩):=F0.out.cell 0 5 rfl rfl; have k0_6 : W0.cell? ⟨xb,6,none⟩ = some (.string ⟨h.rc.toArray⟩):=F0.out.cell 0 6 rfl rfl; have k0_7 : W0.cell? ⟨xb,7,none⟩ = some (.string ⟨h.tx.toArray⟩):=F0.out.cell 0 7 rfl rfl; have k0_8 : W0.cell? ⟨xb,8,none⟩ = some (.string ⟨h.mem.toArray⟩):=F0.out.cell 0 8 rfl rfl; have k0_9 : W0.cell? ⟨xb,9,none⟩ = some (.string ⟨h.nxt.toArray⟩):=F0.out.cell 0 9 rfl rfl; have k0_10 : W0.cell? ⟨xb,10,none⟩ = some (.slice A h.sk.length c):=F0.out.cell 0 10 rfl rfl
   go_wp2_with fail
   exact HP.out _ _ HX.out F0.out.b
  | true =>
   rw [e0,e1,e2] at HX
   go_enter Tryz.func87,Tryz.ntmps87
   go_upto_region 1 with fail
   have F0:=Live.ha (Lib.hid (Live.start w)) #[.int .i64 h.hgt,.int .i64 h.epo,.int .i64 h.vw,.bool h.last,.string ⟨h.par.toArray⟩,.string ⟨h.st.toArray⟩,.string ⟨h.rc.toArray⟩,.string ⟨h.tx.toArray⟩,.string ⟨h.mem.toArray⟩,.string ⟨h.nxt.toArray⟩,.slice A h.sk.length c] 65
   generalize w.alloc (.cells #[.int .i64 h.hgt,.int .i64 h.epo,.int .i64 h.vw,.bool h.last,.string ⟨h.par.toArray⟩,.string ⟨h.st.toArray⟩,.string ⟨h.rc.toArray⟩,.string ⟨h.tx.toArray⟩,.string ⟨h.mem.toArray⟩,.string ⟨h.nxt.toArray⟩,.slice A h.sk.length c] 65) = W0 at F0 ⊢
   generalize w.heap.size = xb at F0 ⊢
   have k0_0 : W0.cell? ⟨xb,0,none⟩ = some (.int .i64 h.hgt):=F0.out.cell 0 0 rfl rfl; have k0_1 : W0.cell? ⟨xb,1,none⟩ = some (.int .i64 h.epo):=F0.out.cell 0 1 rfl rfl; have k0_2 : W0.cell? ⟨xb,2,none⟩ = some (.int .i64 h.vw):=F0.out.cell 0 2 rfl rfl; have k0_3 : W0.cell? ⟨xb,3,none⟩ = some (.bool h.last):=F0.out.cell 0 3 rfl rfl; have k0_4 : W0.cell? ⟨xb,4,none⟩ = some (.string ⟨h.par.toArray⟩):=F0.out.cell 0 4 rfl rfl; have k0_5 : W0.cell? ⟨xb,5,none⟩ = some (.string ⟨h.st.toArray⟩):=F0.out.cell 0 5 rfl rfl; have k0_6 : W0.cell? ⟨xb,6,none⟩ = some (.string ⟨h.rc.toArray⟩):=F0.out.cell 0 6 rfl rfl; have k0_7 : W0.cell? ⟨xb,7,none⟩ = some (.string ⟨h.tx.toArray⟩):=F0.out.cell 0 7 rfl rfl; have k0_8 : W0.cell? ⟨xb,8,none⟩ = some (.string ⟨h.mem.toArray⟩):=F0.out.cell 0 8 rfl rfl; have k0_9 : W0.cell? ⟨xb,9,none⟩ = some (.string ⟨h.nxt.toArray⟩):=F0.out.cell 0 9 rfl rfl; have k0_10 : W0.cell? ⟨xb,10,none⟩ = some (.slice A h.sk.length c):=F0.out.cell 0 10 rfl rfl
   go_wp2_with fail
   exact HP.out _ _ (by rw [HX.out]; rfl) F0.out.b
end Go.Proofs.YtnelhjfjkkdoaaaGreatDoor
namespace Go.Proofs.YtnelhjfjkkdoaaaGreatDoor
open Go.RowKit
theorem strv_snoc (D : List (List UInt8)) (s : List UInt8) : strv (D ++ [s]) = strv D ++ [.string ⟨s.toArray⟩]:=by simp [strv]
end Go.Proofs.YtnelhjfjkkdoaaaGreatDoor
