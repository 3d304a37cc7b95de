import Derived.Test.YtomnlhbioijfhaaGreatDoorJ32
set_option linter.unusedSimpArgs false
set_option linter.unusedVariables false
namespace Go.Proofs.YtomnlhbioijfhaaGreatDoor
open Go.RowKit Go.Shelf Go.Instr
attribute [local go_sem] ba_get ByteArray.mk_append_mk
attribute [local go_sem] Oper.semAt_some
theorem wpListIn_append_new {F : Fence} {nn : Nat} {P : Program} (wr : World) (e : TypeId) (news : List Value) {ops : Array Oper} {rest : List Oper} {o : Oper} {a : Act} {Q : Exit → Act → World → Prop} (hgd : o.guard = none) (s x : Operand) (t : TypeId)
  (ho : o.op = .call { callee:=.builtin .append,args:=#[s,x],argTypes:=#[t,t] })
  (base size bytes : Nat) (z : Value) (hinfo : (P.info? e).map (fun i=>(i.zero,i.size,i.bytes)) = some (some z,size,bytes)) (ht : P.underlying t = some (.slice e)) (hzs : z.cells.size = size) (hsz : 0 < size)
  (v : Value) (n : Nat) (xs : List Value) (hs : a.eval s = v) (hown : wr.ownsRow base e size v n xs)
  (m c : Nat) (hx : a.eval x = .slice (some ⟨wr.heap.size,0,none⟩) m c) (hl : news.length = m * size) (h1 : ∀ u ∈ news,u.oneCell' = true)
  (h63 : n + m ≤ maxLen) (hbytes : (n + m) * bytes ≤ 140737488355328) (hbase : base ≤ wr.heap.size)
  (h : ∀ v' w',w'.ownsRow base e size v' (n + m) (xs ++ news) → wr.grownBy w' v.ownBlock → (v'.ownBlock = v.ownBlock ∨ ∃ g,v'.ownBlock = some g ∧ wr.heap.size ≤ g) → wpListIn F nn P ops Q rest (a.put o.dst v') w') :
  wpListIn F nn P ops Q (o :: rest) a (wr.alloc (.cells news.toArray e)):=by
 refine wpListIn_plain hgd fun K hK' => ?_
 obtain ⟨i,hi,hz,hsize,hby⟩:=info_parts hinfo
 have hn : ∀ j u,news[j]? = some u → (wr.alloc (.cells news.toArray e)).cell? ((⟨wr.heap.size,0,none⟩ : Addr).add j) = some u:=by
  intro j u hu
  have ha : (⟨wr.heap.size,0,none⟩ : Addr).add j = ⟨wr.heap.size,j,none⟩:=by unfold Addr.add; split <;> simp_all
  rw [ha,World.cell?_alloc_at _ _ _ _ rfl]
  simpa using hu
 obtain ⟨v',w',hrun,h2,h3,_,h5⟩:=run_append_own_at (P:=P) (wr.alloc (.cells news.toArray e)) base t o.type e i z size bytes ht hi hz hsize hby hzs hsz v n xs (hown.alloc _) ⟨wr.heap.size,0,none⟩ m c news hl hn h1 h63 hbytes (by simp; omega)
 have hg : wr.grownBy w' v.ownBlock:=⟨h3.os,h3.tape,h3.output,by have:=h3.size; simp at this; omega,fun k hk hne=>(h3.block k (by simp; omega) hne).trans (Below.heap_alloc _ _ _ hk)⟩
 unfold Oper.wpIn
 refine ⟨?_, ?_⟩
 ·simp [Oper.about,ho,resolve,Target.leads,Sem.run_pure]
 ·rw [Oper.semAt_plain F _ _ (by rw [ho]; intro c hc'; cases hc')]
  simp [execOp,ho,resolve,invoke,builtin,hs,hx,hrun,Result.andThen]
  refine hK' _ _ (h v' w' h2 hg ?_)
  rcases h5 with h5 | h5
  ·exact .inl h5
  ·exact .inr ⟨_,h5,by simp⟩
theorem RgI.push {w : World} {b m B : Nat} {pre : List Trie.KV} {x : Trie.KV} {W w2 : World} {A A2 : Option Addr} {c c2 : Nat} (hwb : w.heap.size ≤ b) (bO : Boxed W b 24 (.slice A pre.length c)) (own : W.ownsRow w.heap.size 77 2 (.slice A pre.length c) pre.length (icells pre)) (bM : Boxed W (b - 1) 3 (.int .i64 (m : Int))) (hb0 : b - 1 ≠ b) (bS : Boxed W (b + 1) 9 (.string ⟨#[]⟩)) (bC : Boxed W (b + 2) 31 (.int .i64 0)) (hB : Below w.heap.size w W) (hlen : pre.length + 1 ≤ m)
  (own2 : w2.ownsRow w.heap.size 77 2 (.slice A2 (pre.length + 1) c2) (pre.length + 1) (icells pre ++ [.string ⟨x.1.toArray⟩,.string ⟨x.2.toArray⟩])) (hg : W.grownBy w2 (Value.slice A pre.length c).ownBlock) (hor : (Value.slice A2 (pre.length + 1) c2).ownBlock = (Value.slice A pre.length c).ownBlock ∨ ∃ g,(Value.slice A2 (pre.length + 1) c2).ownBlock = some g ∧ W.heap.size ≤ g) :
  KeepsFrom B W (w2.setCell ⟨b,0,none⟩ (.slice A2 (pre.length + 1) c2)) ∧ KpI b W (w2.setCell ⟨b,0,none⟩ (.slice A2 (pre.length + 1) c2)) ∧ RgI w b m (pre ++ [x]) (w2.setCell ⟨b,0,none⟩ (.slice A2 (pre.length + 1) c2)):=by
 have bO2:=bO.kept hg (bO.not_row (by decide) own)
 have hcells : ∀ j o,(Value.slice A pre.length c).ownBlock = some j → W.heap[j]? = some o → o.isCells = true:=by
  intro j o ej hj
  rcases own.2 with ⟨h,_⟩ | ⟨g,cap,cur,h,_,hgb,_⟩
  ·rw [h] at ej; simp [Value.ownBlock] at ej
  ·rw [h] at ej
   obtain rfl : g = j:=by simpa [Value.ownBlock] using ej
   rw [hgb] at hj; cases hj; rfl
 refine ⟨((KeepsOthers.of_grownBy hg hcells).trans (KeepsOthers.setCell _ _ _)).from _,⟨by simpa using hg.size,fun g hs => ?_⟩,⟨⟨_,bO2.set _, ?_,trivial⟩, ?_, ?_, ?_, ?_⟩, ?_⟩
 ·obtain ⟨a1,a2,a3,⟨o,a4,a5⟩,a6⟩:=hs
  have hlt:=(Array.getElem?_eq_some_iff.1 a4).1
  have hne : some g ≠ (Value.slice A pre.length c).ownBlock:=fun e=>by
   cases A with
   | none=>simp [Value.ownBlock] at e
   | some a =>
    obtain ⟨ab,ao,asp⟩:=a
    simp only [Value.ownBlock,Option.some.injEq] at e
    subst e
    rcases own.2 with ⟨h,_⟩ | ⟨g,cap,cur,h,_,_⟩
    ·cases h
    ·injection h with h; injection h with h; injection h with h h' h''; subst h'; subst h''
     exact a6 _ _ _ bO.cell
  refine ⟨(Below.heap_setCell _ _ _ g a1).trans (hg.block g hlt hne),fun o2 n2 c3 e => ?_⟩
  rw [(bO2.set (.slice A2 (pre.length + 1) c2)).cell] at e
  injection e with e
  have e2 : (Value.slice A2 (pre.length + 1) c2).ownBlock = some g:=by rw [e]; rfl
  rcases hor with h | ⟨g2,h,h2⟩
  ·exact hne (by rw [← h,e2])
  ·rw [e2] at h; injection h with h; omega
 ·rw [icells_snoc,List.length_append]
  exact own2.kept (grownBy_setCell' w2 b _) (.inr (bO2.not_row (by decide) own2).symm)
 ·exact (bM.kept hg (bM.not_row (by decide) own)).other hb0 _
 ·exact (bS.kept hg (bS.not_row (by decide) own)).other (by omega) _
 ·exact (bC.kept hg (bC.not_row (by decide) own)).other (by omega) _
 ·simp; omega
 ·exact (hB.grown hg hB.size (fun k e=>(own.lt k e).1)).setCell (p:=⟨b,0,none⟩) hwb _
theorem three_set {W : World} {b : Nat} {v s c v0 s0 c0 : Value} (bO : Boxed W b 24 v0) (bS : Boxed W (b + 1) 9 s0) (bC : Boxed W (b + 2) 31 c0) :
  Boxed (((W.setCell ⟨b,0,none⟩ v).setCell ⟨b + 1,0,none⟩ s).setCell ⟨b + 2,0,none⟩ c) b 24 v ∧ Boxed (((W.setCell ⟨b,0,none⟩ v).setCell ⟨b + 1,0,none⟩ s).setCell ⟨b + 2,0,none⟩ c) (b + 1) 9 s ∧ Boxed (((W.setCell ⟨b,0,none⟩ v).setCell ⟨b + 1,0,none⟩ s).setCell ⟨b + 2,0,none⟩ c) (b + 2) 31 c ∧ KeepsOthers W (((W.setCell ⟨b,0,none⟩ v).setCell ⟨b + 1,0,none⟩ s).setCell ⟨b + 2,0,none⟩ c) :=
 ⟨((bO.set v).other (by omega) s).other (by omega) c,((bS.other (by omega) v).set s).other (by omega) c,((bC.other (by omega) v).other (by omega) s).set c,((KeepsOthers.setCell _ _ _).trans (KeepsOthers.setCell _ _ _)).trans (KeepsOthers.setCell _ _ _)⟩
theorem three_own {W : World} {b base n : Nat} {v s c v0 s0 c0 u : Value} {xs : List Value} (bO : Boxed W b 24 v0) (bS : Boxed W (b + 1) 9 s0) (bC : Boxed W (b + 2) 31 c0) (own : W.ownsRow base 77 2 u n xs) :
  (((W.setCell ⟨b,0,none⟩ v).setCell ⟨b + 1,0,none⟩ s).setCell ⟨b + 2,0,none⟩ c).ownsRow base 77 2 u n xs:=by
 have o1:=own.kept (grownBy_setCell' W b v) (.inr (bO.not_row (by decide) own).symm)
 have b1:=bS.other (show b + 1 ≠ b by omega) v
 have o2:=o1.kept (grownBy_setCell' _ (b + 1) s) (.inr (b1.not_row (by decide) o1).symm)
 have b2:=(bC.other (show b + 2 ≠ b by omega) v).other (show b + 2 ≠ b + 1 by omega) s
 exact o2.kept (grownBy_setCell' _ (b + 2) c) (.inr (b2.not_row (by decide) o2).symm)
theorem three_below {w W : World} {b : Nat} (hwb : w.heap.size ≤ b) (v s c : Value) (h : Below w.heap.size w W) : Below w.heap.size w (((W.setCell ⟨b,0,none⟩ v).setCell ⟨b + 1,0,none⟩ s).setCell ⟨b + 2,0,none⟩ c) :=
 ((h.setCell (p:=⟨b,0,none⟩) hwb _).setCell (p:=⟨b + 1,0,none⟩) (by simp only; omega) _).setCell (p:=⟨b + 2,0,none⟩) (by simp only; omega) _
theorem range_leaves {w W : World} {b D : Nat} {A : Option Addr} {n c : Nat} {l : List Trie.KV} {s : List UInt8}
  (bO : Boxed W b 24 (.slice A n c)) (bS : Boxed W (b + 1) 9 (.string ⟨s.toArray⟩)) (bC : Boxed W (b + 2) 31 (.int .i64 0)) (own : W.ownsRow w.heap.size 77 2 (.slice A n c) l.length (icells l)) (hB : Below w.heap.size w W) (hK : W.heap[D]? = some (.deferred (some []))) (hD : w.heap.size ≤ D) :
  (∀ tmps : Array Value,tmps[8]? = some (.pointer (some ⟨b,0,none⟩)) → tmps[9]? = some (.pointer (some ⟨b + 1,0,none⟩)) → tmps[10]? = some (.pointer (some ⟨b + 2,0,none⟩)) → (results Tryz.f75 tmps).run Tryz.prog (W.putObj D (.deferred none)) = .ok (.tuple #[.slice A n c,.string ⟨s.toArray⟩,.int .i64 0]) (W.putObj D (.deferred none))) ∧ (W.putObj D (.deferred none)).ownsRow w.heap.size 77 2 (.slice A n c) l.length (icells l) ∧ Below w.heap.size w (W.putObj D (.deferred none)):=by
 have hr : ∀ r,some D = some r → ∃ o : Obj,W.heap[r]? = some o ∧ o.isCells = false:=fun r e=>by cases e; exact ⟨_,hK,rfl⟩
 exact ⟨fun tmps h8 h9 h10=>range_results h8 h9 h10 (cell_kept bO.cell (grownBy_putObj' _ D _) hr) (cell_kept bS.cell (grownBy_putObj' _ D _) hr) (cell_kept bC.cell (grownBy_putObj' _ D _) hr) rfl rfl rfl,ownsRow_putObj own _ hK rfl,hB.trans (belowK_b (w:=w) (Nat.le_refl _) W D _ _ hD hK rfl rfl)⟩
theorem RgX.of {w W W3 : World} {b m B : Nat} {pre : List Trie.KV} {x : Trie.KV} {A : Option Addr} {c : Nat} {bk : List UInt8} (hwb : w.heap.size ≤ b) (bO : Boxed W b 24 (.slice A pre.length c)) (own : W.ownsRow w.heap.size 77 2 (.slice A pre.length c) pre.length (icells pre)) (bS : Boxed W (b + 1) 9 (.string ⟨#[]⟩)) (bC : Boxed W (b + 2) 31 (.int .i64 0)) (hB : Below w.heap.size w W) (hlen : pre.length = m)
  (hbk : Trie.behindW (pre.getD (m - 1) ([], [])).1 = bk) (hb : Below W.heap.size W W3) :
  KeepsFrom B W (((W3.setCell ⟨b,0,none⟩ (.slice A pre.length c)).setCell ⟨b + 1,0,none⟩ (.string ⟨bk.toArray⟩)).setCell ⟨b + 2,0,none⟩ (.int .i64 0)) ∧ RgX w b m .ret (pre ++ [x]) (((W3.setCell ⟨b,0,none⟩ (.slice A pre.length c)).setCell ⟨b + 1,0,none⟩ (.string ⟨bk.toArray⟩)).setCell ⟨b + 2,0,none⟩ (.int .i64 0)):=by
 have key : ∀ {g : Nat} {t : TypeId} {u : Value},Boxed W g t u → Boxed W3 g t u:=fun h=>(hb.block _ h.lt).trans h
 obtain ⟨t1,t2,t3,t4⟩:=three_set (v:=.slice A pre.length c) (s:=.string ⟨bk.toArray⟩) (c:=.int .i64 0) (key bO) (key bS) (key bC)
 refine ⟨(below_keeps hb).trans (t4.from _),⟨⟨_,t1, ?_,trivial⟩, ?_,t3,rfl,by simp; omega⟩,three_below hwb _ _ _ (hB.nxt hb)⟩
 ·rw [List.length_append,List.length_cons,List.length_nil,Nat.add_sub_cancel,List.dropLast_concat]
  exact three_own (key bO) (key bS) (key bC) (own_below own hb)
 ·rw [List.dropLast_concat,hbk]; exact t2
def RgA (w : World) (p : Option Addr) (f e : ByteArray) (m : Nat) (x : Trie.KV) (a : Act) (W : World) : Prop :=
 ∃ (Bx : Nat) (s4 s5 s6 s12 s13 s14 s15 s16 s17 s18 s19 s20 s21 s22 s23 s24 s25 s26 s27 s28 s29 s30 s31 s32 s33 s34 s35 s36 s37 s38 s39 : Value),
  Blk W Bx 77 #[.string ⟨x.1.toArray⟩,.string ⟨x.2.toArray⟩] ∧ a = { tmps:=#[.pointer p,.string f,.string e,.int .i64 (m : Int),s4,s5,s6,.pointer (some ⟨w.heap.size,0,none⟩),.pointer (some ⟨w.heap.size + 1,0,none⟩),.pointer (some ⟨w.heap.size + 1 + 1,0,none⟩),.pointer (some ⟨w.heap.size + 1 + 1 + 1,0,none⟩),.pointer (some ⟨Bx,0,none⟩),s12,s13,s14,s15,s16,s17,s18,s19,s20,s21,s22,s23,s24,s25,s26,s27,s28,s29,s30,s31,s32,s33,s34,s35,s36,s37,s38,s39],defers := [] }
theorem rgA_own (w : World) (p : Option Addr) (f e : ByteArray) (m : Nat) (B : Nat) (x : Trie.KV) (a : Act) : OwnFrom B (fun (_ : Unit) W=>RgA w p f e m x a W):=by
 rintro s X Y row ⟨Bx,s4,s5,s6,s12,s13,s14,s15,s16,s17,s18,s19,s20,s21,s22,s23,s24,s25,s26,s27,s28,s29,s30,s31,s32,s33,s34,s35,s36,s37,s38,s39,hb,rfl⟩ hg hr
 refine ⟨Bx,s4,s5,s6,s12,s13,s14,s15,s16,s17,s18,s19,s20,s21,s22,s23,s24,s25,s26,s27,s28,s29,s30,s31,s32,s33,s34,s35,s36,s37,s38,s39,hb.grown hg (fun e => ?_),rfl⟩
 obtain ⟨_,o,ho,hc⟩:=hr Bx e.symm
 unfold Blk at hb
 rw [ho] at hb
 injection hb with hb
 rw [hb] at hc
 cases hc
theorem prefix_page {L : List Trie.KV} {f e : List UInt8} {m : Nat} {pre : List Trie.KV} (h : pre <+: Trie.allIn L f e) (hl : pre.length = m + 1) (hm : 1 ≤ m) :
  Trie.pageW L f e m = (pre.dropLast,Trie.behindW (pre.dropLast.getD (m - 1) ([], [])).1):=by
 obtain ⟨r,hr⟩:=h
 have hlen : m < (Trie.allIn L f e).length:=by rw [← hr,List.length_append]; omega
 unfold Trie.pageW
 rw [if_neg (by omega)]
 have h1 : (Trie.allIn L f e).take m = pre.dropLast:=by
  rw [← hr,List.take_append_of_le_length (by omega),List.dropLast_eq_take,hl]
  rfl
 rw [h1]
 congr 2
 rw [← h1]
 rw [List.getD_eq_getElem?_getD,List.getD_eq_getElem?_getD,List.getElem?_take_of_lt (by omega)]
set_option maxRecDepth 100000 in
set_option maxHeartbeats 8000000 in
theorem scan_Range (w : World) (t : Trie.T) (p : Option Addr) (hT : TrieP w t (.pointer p)) (hc : Trie.count t ≤ 20000) (f e : List UInt8) (m : Nat) (h1 : 1 ≤ m) (h2 : m ≤ 16) :
  Calls Tryz.prog 75 #[.pointer p,.string ⟨f.toArray⟩,.string ⟨e.toArray⟩,.int .i64 (m : Int)] w (RangeEnd w (Trie.pageW (Trie.itemsW t) f e m) 0):=by
 have HP : Hid (∀ l s v W,Trie.pageW (Trie.itemsW t) f e m = (l,s) → W.ownsRow w.heap.size 77 2 v l.length (icells l) → Below w.heap.size w W → RangeEnd w (Trie.pageW (Trie.itemsW t) f e m) 0 (.returned (.tuple #[v,.string ⟨s.toArray⟩,.int .i64 0])) W):=Lib.hid (fun l s v W h1 h2 h3=>by rw [h1]; exact ⟨v,rfl,h2,h3⟩)
 have HPf : Hid (∀ pre,pre <+: Trie.allIn (Trie.itemsW t) f e → pre.length = m + 1 → Trie.pageW (Trie.itemsW t) f e m = (pre.dropLast,Trie.behindW (pre.dropLast.getD (m - 1) ([], [])).1)):=Lib.hid (fun pre a1 a2=>prefix_page a1 a2 h1)
 have HAl : Hid (∀ pre,pre = Trie.allIn (Trie.itemsW t) f e → pre.length ≤ m → Trie.pageW (Trie.itemsW t) f e m = (pre, [])):=Lib.hid (fun pre a1 a2=>by unfold Trie.pageW; rw [a1] at a2 ⊢; rw [if_pos a2])
 have HIter:=Lib.hid (fun (w0 : World) (hb : Below w.heap.size w w0)=>scan_iter w0 t (.pointer p) (hT.next hb) hc f e)
 have hm1 : ((m : Int) < 1) = False:=by simp; omega
 have hm2 : ((16 : Int) < m) = False:=by simp; omega
 have HM:=Lib.hid (And.intro h1 h2)
 generalize RangeEnd w (Trie.pageW (Trie.itemsW t) f e m) 0 = P at HP ⊢
 generalize Trie.pageW (Trie.itemsW t) f e m = X at *
 clear hT hc h1 h2
 refine (callsIn_wide (n:=6)).1 ?_
 refine callsIn_of_wp_marks Tryz.func75 rfl trivial ?_ rfl
 simp only [Tryz.ntmps75,List.size_toArray,List.length_cons,List.length_nil,Nat.reduceAdd,Nat.reduceSub,Array.replicate_succ,Array.replicate_zero,List.push_toArray,List.append_toArray,List.nil_append,List.cons_append]
 gi_wp2_with (refine ⟨trivial, ?_⟩; gi_at_call 107; refine (scan_within _ p ⟨f.toArray⟩ ⟨e.toArray⟩).mono ?_; rintro q w1 ⟨rfl,hw1⟩; have HW1:=Lib.hid hw1; clear hw1)
 have hb1 : Below w.heap.size w w1:=by rw [HW1.out]; go_grown
 have hsz : w1.heap.size = w.heap.size + 7:=by rw [HW1.out]; simp
 have HCs : Hid (w1.cell? ⟨w.heap.size + 4,0,none⟩ = some (.pointer p) ∧ w1.cell? ⟨w.heap.size + 4 + 1,0,none⟩ = some (.string ⟨f.toArray⟩) ∧ w1.cell? ⟨w.heap.size + 4 + 1 + 1,0,none⟩ = some (.string ⟨e.toArray⟩)):=Lib.hid (by
  rw [HW1.out]
  refine ⟨?_, ?_, ?_⟩ <;> first | (simp [go_sem]; done) | (go_simp; done))
 have bM : Boxed w1 w.heap.size 3 (.int .i64 (m : Int)):=by rw [HW1.out]; exact ((((((Boxed.new w _ _).alloc _).alloc _).alloc _).alloc _).alloc _).alloc _
 have bO : Boxed w1 (w.heap.size + 1) 24 (.slice none 0 0):=by
  rw [HW1.out]
  have:=Boxed.new (w.alloc (.cells #[.int .i64 (m : Int)] 3)) 24 (.slice none 0 0)
  rw [World.size_alloc] at this
  exact ((((this.alloc _).alloc _).alloc _).alloc _).alloc _
 have bS : Boxed w1 (w.heap.size + 1 + 1) 9 (.string ⟨#[]⟩):=by
  rw [HW1.out]
  have:=Boxed.new ((w.alloc (.cells #[.int .i64 (m : Int)] 3)).alloc (.cells #[.slice none 0 0] 24)) 9 (.string ⟨#[]⟩)
  rw [World.size_alloc,World.size_alloc] at this
  exact (((this.alloc _).alloc _).alloc _).alloc _
 have bC : Boxed w1 (w.heap.size + 1 + 1 + 1) 31 (.int .i64 0):=by
  rw [HW1.out]
  have:=Boxed.new (((w.alloc (.cells #[.int .i64 (m : Int)] 3)).alloc (.cells #[.slice none 0 0] 24)).alloc (.cells #[.string ⟨#[]⟩] 9)) 31 (.int .i64 0)
  rw [World.size_alloc,World.size_alloc,World.size_alloc] at this
  exact ((this.alloc _).alloc _).alloc _
 have HI0 : Hid (RgI w (w.heap.size + 1) m [] w1):=Lib.hid ⟨⟨⟨_,bO,World.ownsRow_nil _ _ _ _,trivial⟩,bM,bS,bC,Nat.zero_le _⟩,hb1⟩
 have HSq:=Lib.hid (HIter.out w1 hb1 (w.heap.size + 1) (w.heap.size + 4) HCs.out.1 HCs.out.2.1 HCs.out.2.2 (by omega) bO.cell)
 have HSz:=Lib.hid (And.intro hb1 hsz)
 clear HW1 HCs bM bO bS bC HIter hb1 hsz
 refine wpIn_rangeFunc_ownH rfl (by omega) (gf:=135) (lb:=#[.pointer (some ⟨w.heap.size + 4,0,none⟩),.pointer (some ⟨w.heap.size + 4 + 1,0,none⟩),.pointer (some ⟨w.heap.size + 4 + 1 + 1,0,none⟩)]) rfl trivial (enters_of Tryz.func135 (by kernel_rfl) rfl)
  HSq.out (fun h k=>h.trans k) (KpI.book (by have:=HSz.out.2; omega)) (Below.refl _ _) (fun _=>rfl)
  (RgI w (w.heap.size + 1) m) (RgX w (w.heap.size + 1) m) (rgI_own _ _ _ _ HSz.out.1.size) (rgX_own _ _ _ _ HSz.out.1.size) HI0.out (RgA w p ⟨f.toArray⟩ ⟨e.toArray⟩ m) (rgA_own _ _ _ _ _ _) ?assign ?body ?done ?stop
 case assign =>
  intro l pre x W K hI hK
  have HK:=Lib.hid hK
  have HII:=Lib.hid hI
  clear hK hI
  obtain ⟨kx,vx⟩:=x
  dsimp only [kvA]
  gi_wp2
  have hbA : Below W.heap.size W (W.alloc (.cells #[.string ⟨kx.toArray⟩,.string ⟨vx.toArray⟩] 77)):=(Below.refl _ _).alloc (Nat.le_refl _) _
  have hlt : w.heap.size + 1 < W.heap.size:=by obtain ⟨⟨⟨v,h,_⟩,_⟩,_⟩:=HII.out; exact h.lt
  exact HK.out _ _ (below_keeps hbA) (below_kp hlt hbA) (HII.out.next hbA) ⟨W.heap.size,_,_,_,_,_,_,_,_,_,_,_,_,_,_,_,_,_,_,_,_,_,_,_,_,_,_,_,_,_,_,_,Blk.new _ _ _,rfl⟩
 case body =>
  rintro l pre x a' W hl ⟨r,hr⟩ hI ⟨Bx,s4,s5,s6,s12,s13,s14,s15,s16,s17,s18,s19,s20,s21,s22,s23,s24,s25,s26,s27,s28,s29,s30,s31,s32,s33,s34,s35,s36,s37,s38,s39,hBx,rfl⟩ hlt
  obtain ⟨kx,vx⟩:=x
  simp only at hBx
  obtain ⟨⟨⟨v,bO,own,_⟩,bM,bS,bC,hlen⟩,hB⟩:=hI
  rw [Nat.add_sub_cancel] at bM
  obtain ⟨A,c,rfl,hrd,hcap,_⟩:=own_form own
  have HO:=Lib.hid (And.intro bO (And.intro own (And.intro bM (And.intro bS (And.intro bC (And.intro hlen hB))))))
  have HBx:=Lib.hid hBx
  have cO:=bO.cell; have fO:=bO.frozen
  have cM:=bM.cell
  have cS:=bS.cell; have fS:=bS.frozen
  have cC:=bC.cell; have fC:=bC.frozen
  have x0 : W.cell? ⟨Bx,0,none⟩ = some (.string ⟨kx.toArray⟩):=hBx.cell 0
  have x1 : W.cell? ⟨Bx,1,none⟩ = some (.string ⟨vx.toArray⟩):=hBx.cell 1
  by_cases hm : pre.length = m
  ·have hmI : ((pre.length : Int) == (m : Int)) = true:=by simp; omega
   obtain ⟨m',hm'⟩ : ∃ m',m = m' + 1:=⟨m - 1,by have:=HM.out.1; omega⟩
   have hmi : m' < pre.length:=by omega
   obtain ⟨ad,off,rfl,hbl,hcell⟩:=item_cells hrd hmi
   have q0:=(hcell W (Below.refl _ _)).1
   have HBd : Hid (Trie.behindW (pre.getD (m - 1) ([], [])).1 = Trie.behindW pre[m'].1):=Lib.hid (by rw [show m - 1 = m' by omega,List.getD_eq_getElem?_getD,List.getElem?_eq_getElem hmi]; rfl)
   have hm0 : (0 : Int) ≤ m':=by omega
   have hm1 : (m' : Int) < pre.length:=by omega
   have hw : IntKind.i64.wrap ((m : Int) - 1) = (m' : Int):=by rw [show (m : Int) - 1 = m' by omega]; have:=HM.out.2; exact IntWalk.i64_in _ (by constructor <;> omega)
   have HLn:=Lib.hid hm
   have hd : 1 ≤ (6 - 1 - 1 : Nat):=by omega
   have hmx : Tryz.prog.follows .mixedOrders = true:=by kernel_rfl
   have HBe:=Lib.hid (fun W=>scan_Behind W pre[m'].1)
   have HK : Hid (∀ W',Below W.heap.size W W' → W'.cell? ⟨ad,off + m' * 2,none⟩ = some (.string ⟨pre[m'].1.toArray⟩)):=Lib.hid (fun W' hW=>(hcell W' hW).1)
   clear bO own bM bS bC hlen hB hrd hcap hBx hr hlt hm
   generalize pre[m'].1 = ky at *
   generalize Trie.behindW ky = bk at *
   clear hcell hm' hmi
   gi_wp2
   gi_region_with_o (refine ⟨trivial, ?_⟩; gi_at_call 77; refine (CallsIn.inRound l (callsIn_wide.2 (HBe.out _))).mono ?_; rintro q w3 ⟨rfl,hb3⟩; have B3 : Below W.heap.size W w3:=(by first | exact hb3 | exact hb3.start); have key : ∀ {g : Nat} {u : Value},W.cell? ⟨g,0,none⟩ = some u → w3.cell? ⟨g,0,none⟩ = some u:=(fun h=>(B3.cell (World.block_lt_of_cell? _ _ h)).trans h); have dO:=key cO; have dM:=key cM; have dS:=key cS; have dC:=key cC; have eO:=(B3.frozen (p:=⟨w.heap.size + 1,0,none⟩) HO.out.1.lt).trans fO; have eS:=(B3.frozen (p:=⟨w.heap.size + 1 + 1,0,none⟩) HO.out.2.2.2.1.lt).trans fS; have eC:=(B3.frozen (p:=⟨w.heap.size + 1 + 2,0,none⟩) HO.out.2.2.2.2.1.lt).trans fC; have dk:=HK.out w3 B3; clear hb3 key)
   all_goals gi_wp2
   all_goals exact RgX.of (by omega) HO.out.1 HO.out.2.1 HO.out.2.2.2.1 HO.out.2.2.2.2.1 HO.out.2.2.2.2.2.2 HLn.out HBd.out B3
  ·have hmI : ((pre.length : Int) == (m : Int)) = false:=by simp; omega
   have hlen2 : pre.length + 1 ≤ m:=by omega
   have hl17 : pre.length ≤ 16:=by have:=HM.out.2; omega
   clear bO own bM bS bC hlen hB hrd hcap hBx hr hlt hm hmI
   have hmI : ((pre.length : Int) == (m : Int)) = false:=by simp; omega
   gi_wp2_with (gi_at_builtin; refine wpListIn_append_new W 77 [.string ⟨kx.toArray⟩,.string ⟨vx.toArray⟩] rfl _ _ 24 rfl w.heap.size 2 32 _ info_item Tryz.underlying24 rfl (by decide) (.slice A pre.length c) pre.length (icells pre) rfl HO.out.2.1 1 1 rfl rfl (by simp [Value.oneCell']) (by simp only [maxLen]; omega) (by omega) HO.out.2.2.2.2.2.2.size ?_; intro v2 w2 hown2 hgr2 hor2; obtain ⟨A2,cc2,rfl,_,_,_⟩:=own_form hown2; have bO2:=HO.out.1.kept hgr2 (HO.out.1.not_row (by decide) HO.out.2.1); have cO2:=bO2.cell; have fO2:=bO2.frozen; have O2:=Lib.hid (And.intro hown2 (And.intro hgr2 hor2)); clear hown2 hgr2 hor2 bO2)
   have hp:=RgI.push (w:=w) (b:=w.heap.size + 1) (B:=w1.heap.size) (m:=m) (x:=(kx,vx)) (by omega) HO.out.1 HO.out.2.1 (by rw [Nat.add_sub_cancel]; exact HO.out.2.2.1) (by omega) HO.out.2.2.2.1 HO.out.2.2.2.2.1 HO.out.2.2.2.2.2.2 hlen2 O2.out.1 O2.out.2.1 O2.out.2.2
   exact hp
 case done =>
  rintro D ys W hD hys hI hK
  have HII:=Lib.hid hI
  obtain ⟨⟨⟨v,bO,own,_⟩,bM,bS,bC,hlen⟩,hB⟩:=hI
  obtain ⟨A,c,rfl,_,_,_⟩:=own_form own
  have HX:=Lib.hid (HAl.out ys hys hlen)
  have HO:=Lib.hid (And.intro own (And.intro hB (And.intro bO (And.intro bS bC))))
  have cO:=bO.cell; have fO:=bO.frozen
  have cS:=bS.cell; have fS:=bS.frozen
  have cC:=bC.cell; have fC:=bC.frozen
  have HK:=Lib.hid hK
  clear own bM hlen hB hys bO bS bC hK
  gi_wp2
  obtain ⟨t1,t2,t3,t4⟩:=three_set (v:=.slice A ys.length c) (s:=.string ⟨#[]⟩) (c:=.int .i64 0) HO.out.2.2.1 HO.out.2.2.2.1 HO.out.2.2.2.2
  have hK3:=t4.same D _ HK.out rfl
  refine ⟨by simp,.inl ⟨_,_,rfl,run_takeDeferred hK3, ?_⟩⟩
  obtain ⟨e1,e2,e3⟩:=range_leaves (s := []) (l:=ys) t1 t2 t3 (three_own HO.out.2.2.1 HO.out.2.2.2.1 HO.out.2.2.2.2 HO.out.1) (three_below (by omega) _ _ _ HO.out.2.1) hK3 (Nat.le_trans HSz.out.1.size hD)
  exact ⟨_,e1 _ rfl rfl rfl,HP.out ys [] _ _ HX.out e2 e3⟩
 case stop =>
  rintro D cd pre W hD hpre hX hK
  obtain ⟨⟨⟨v,bO,own,_⟩,bS,bC,rfl,hlen⟩,hB⟩:=hX
  obtain ⟨A,c,rfl,_,_,_⟩:=own_form own
  have HX:=Lib.hid (HPf.out pre hpre hlen)
  have hdl : pre.dropLast.length = pre.length - 1:=by simp
  have HDl:=Lib.hid hdl
  clear hdl
  have HO:=Lib.hid (And.intro own (And.intro hB (And.intro bO (And.intro bS bC))))
  have HK:=Lib.hid hK
  clear own hlen hB hpre bO bS bC hK
  gi_wp2
  refine ⟨by simp,.inl ⟨_,_,rfl,run_takeDeferred HK.out, ?_⟩⟩
  obtain ⟨e1,e2,e3⟩:=range_leaves (l:=pre.dropLast) HO.out.2.2.1 HO.out.2.2.2.1 HO.out.2.2.2.2 (by rw [HDl.out]; exact HO.out.1) HO.out.2.1 HK.out (Nat.le_trans HSz.out.1.size hD)
  exact ⟨_,e1 _ rfl rfl rfl,HP.out _ _ _ _ HX.out e2 e3⟩
end Go.Proofs.YtomnlhbioijfhaaGreatDoor
