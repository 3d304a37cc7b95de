import Derived.Test.YtomnlhbioijfhaaDoorK27
import Derived.Test.YtomnlhbioijfhaaDoorK06
import Derived.Test.YtomnlhbioijfhaaDoorK19
import Derived.Test.YtomnlhbioijfhaaDoorK28
import Derived.Deep.DeepCutAuto
import Derived.BigFrame
import Derived.Test.YtomnlhbioijfhaaDoorK21
set_option linter.unusedSimpArgs false
set_option linter.unusedVariables false
namespace Go.Proofs.YtomnlhbioijfhaaDoor
open Go.RowKit Go.Instr
attribute [local go_sem] ba_get ByteArray.mk_append_mk
attribute [local go_sem ↓] Go.wp_at_zero Go.wp_at_succ
set_option maxHeartbeats 400000 in
theorem book_Below16 (x : Int) (n : Nat) (w : World) (hn : 1 ≤ n) (hn2 : n ≤ 1048576) :
  Calls Tryd.prog 18 #[.int .i64 x,.int .i64 n] w fun e w' => ∃ k : Nat,k < n ∧ e = .returned (.int .i64 k) ∧ w = w':=by
 have hb1 : x.tmod n < n:=Int.tmod_lt_of_pos x (by omega)
 have hb2 : -(n : Int) < x.tmod n:=by
  have:=Int.tmod_lt_of_pos (-x) (show (0 : Int) < n by omega)
  rw [Int.neg_tmod] at this
  omega
 have q2 : wrap64 (x.tmod n + n) = x.tmod n + n:=IntWalk.wrap64_in _ (by omega)
 obtain ⟨k,hk,hkeq⟩ : ∃ k : Nat,k < n ∧ (wrap64 (x.tmod n + n)).tmod n = (k : Int):=by
  rw [q2]
  have b1:=Int.tmod_lt_of_pos (x.tmod n + n) (show (0 : Int) < n by omega)
  have b2:=Int.tmod_nonneg (n : Int) (show 0 ≤ x.tmod n + n by omega)
  exact ⟨((x.tmod n + n).tmod n).toNat,by omega,by omega⟩
 have HK:=Lib.hid hkeq
 have hq : ((n : Int) == 0) = false:=by rw [beq_eq_false_iff_ne]; omega
 clear hkeq q2 hb1 hb2
 go_enter Tryd.func18,Tryd.ntmps18
 go_wp2
 go_ret
 exact ⟨k,hk,ret_int HK.out,rfl⟩
theorem flatMap_take {α : Type} (f : α → List Value) (k : Nat) (hf : ∀ x,(f x).length = k) : ∀ (l : List α) (i : Nat),(l.take i).flatMap f = (l.flatMap f).take (i * k)
 | [],i=>by simp
 | x :: l,0=>by simp
 | x :: l,i + 1=>by
  rw [List.take_succ_cons,List.flatMap_cons,List.flatMap_cons,flatMap_take f k hf l i,show (i + 1) * k = (f x).length + i * k by rw [hf x,Nat.succ_mul]; omega,List.take_length_add_append]
theorem flatMap_drop {α : Type} (f : α → List Value) (k : Nat) (hf : ∀ x,(f x).length = k) : ∀ (l : List α) (i : Nat),(l.drop i).flatMap f = (l.flatMap f).drop (i * k)
 | [],i=>by simp
 | x :: l,0=>by simp
 | x :: l,i + 1=>by
  rw [List.drop_succ_cons,List.flatMap_cons,flatMap_drop f k hf l i,show (i + 1) * k = (f x).length + i * k by rw [hf x,Nat.succ_mul]; omega,List.drop_length_add_append]
theorem tx_size (w : World) : (sizeOf 33).run Tryd.prog w = .ok 8 w:=by
 go_simp
 try rfl
set_option maxRecDepth 100000 in
theorem tx_cut_to (A : Option Addr) (l : List TxM) (c i : Nat) (hi : i ≤ l.length) (hc : l.length ≤ c) :
  ∃ A1 c1,(∀ w,(Instr.sliceAt 27 (.slice A l.length c) none (some (.int .i64 (i : Int))) none).run Tryd.prog w = .ok (.slice A1 i c1) w) ∧ ∀ w,TxsAt w A l → TxsAt w A1 (l.take i):=by
 refine ⟨if c = 0 then A else A.map (·.add (0 * 8)),c - 0,fun w => ?_,fun w h => ?_⟩
 ·rw [run_sliceAt_slice _ _ _ _ _ _ Tryd.underlying27,run_slice_h _ _ _ _ _ Tryd.underlying27 _ _ (by omega) (by omega)]
  rw [show (sizeOf (Program.elem Tryd.prog 27)).run Tryd.prog w = .ok 8 w from tx_size w]
  rfl
 ·have hr:=h.r
  have hlen : (l.take i).length = i:=by rw [List.length_take]; omega
  refine ⟨⟨?_,fun hp => ?_⟩,fun p hp=>h.m p (List.mem_of_mem_take hp),fun p hp=>h.t p (List.mem_of_mem_take hp),by have:=h.n; omega⟩
  ·rw [flat_len xcell 8 xcell_len]
  rw [hlen] at hp
  obtain ⟨ad,rfl,hb,hcell⟩:=hr.2 (by omega)
  rw [if_neg (by omega)]
  refine ⟨ad,by simp [Addr.add],hb,fun j u hu=>hcell j u ?_⟩
  rw [xcells,flatMap_take xcell 8 xcell_len] at hu
  have hj : j < i * 8:=by
   have:=(List.getElem?_eq_some_iff.1 hu).1
   rw [List.length_take] at this
   omega
  rwa [List.getElem?_take_of_lt hj] at hu
set_option maxRecDepth 100000 in
theorem tx_cut_from (A : Option Addr) (l : List TxM) (c i : Nat) (hi : i ≤ l.length) (hc : l.length ≤ c) :
  ∃ A1 c1,(∀ w,(Instr.sliceAt 27 (.slice A l.length c) (some (.int .i64 (i : Int))) none none).run Tryd.prog w = .ok (.slice A1 (l.length - i) c1) w) ∧ ∀ w,TxsAt w A l → TxsAt w A1 (l.drop i):=by
 refine ⟨if c = i then A else A.map (·.add (i * 8)),c - i,fun w => ?_,fun w h => ?_⟩
 ·rw [run_sliceAt_slice _ _ _ _ _ _ Tryd.underlying27,run_slice_l _ _ _ _ _ Tryd.underlying27 _ _ (by omega) (by omega)]
  rw [show (sizeOf (Program.elem Tryd.prog 27)).run Tryd.prog w = .ok 8 w from tx_size w]
  rfl
 ·refine ⟨?_,fun p hp=>h.m p (List.mem_of_mem_drop hp),fun p hp=>h.t p (List.mem_of_mem_drop hp),by rw [List.length_drop]; have:=h.n; omega⟩
  rw [xcells,flatMap_drop xcell 8 xcell_len,List.length_drop]
  exact h.r.cut hi hc
theorem wpList_append_want {P : Program} (w : World) {ops : Array Oper} {rest : List Oper} {o : Oper} {a : Act} {Q : Exit → Act → World → Prop} (hw : Region.wanted o (yielded ops a.tmps) = true) (s x : Operand) (t : TypeId)
  (ho : o.op = .call { callee:=.builtin .append,args:=#[s,x],argTypes:=#[t,t] })
  (base : Nat) (e : TypeId) (i : TypeInfo) (z : Value) (size bytes : Nat) (ht : P.underlying t = some (.slice e)) (hi : P.info? e = some i) (hz : i.zero = some z)
  (hsize : i.size = size) (hby : i.bytes = bytes) (hzs : z.cells.size = size) (hsz : 0 < size)
  (v : Value) (n : Nat) (xs : List Value) (hs : a.eval s = v) (hown : w.ownsRow base e size v n xs)
  (B : Nat) (A : Option Addr) (m c : Nat) (news : List Value) (hx : a.eval x = .slice A m c) (hr : Reads w B size A m news) (h1 : ∀ u ∈ news,u.oneCell' = true)
  (h63 : n + m ≤ maxLen) (hbytes : (n + m) * bytes ≤ 140737488355328) (hbase : base ≤ w.heap.size)
  (h : ∀ v' w',w'.ownsRow base e size v' (n + m) (xs ++ news) → w.grownBy w' v.ownBlock → (v'.ownBlock = v.ownBlock ∨ v'.ownBlock = some w.heap.size) → wpList P ops Q rest (a.put o.dst v') w') : wpList P ops Q (o :: rest) a w :=
 Go.BigFrame.wpList_want hw fun _ hK=>wp_append_any w s x t ho base e i z size bytes ht hi hz hsize hby hzs hsz v n xs hs hown B A m c news hx hr h1 h63 hbytes hbase fun v' w' h2 h3 h4=>hK _ _ (h v' w' h2 h3 h4)
theorem rcs_one (l : List Ex.Rc) : ∀ u ∈ rcs l,u.oneCell' = true:=by
 intro u hu
 rw [List.mem_flatMap] at hu
 obtain ⟨m,_,hu⟩:=hu
 exact rcell_one m u hu
theorem allGo_mlen : ∀ (l : List Ex.Tx) (t : Trie.T) (M : List Pw.Mem),M.length ≤ 1048576 → (Ex.allGo t l M).2.2.length ≤ 1048576
 | [],_,_,h=>h
 | x :: r,t,M,h=>by
  refine allGo_mlen r _ _ ?_
  by_cases hc : (Ex.doW t x).2 = 0 ∧ x.kind = 4
  ·rw [if_pos hc]
   obtain ⟨hx,_⟩:=Ex.doW_done hc.1
   rcases (Ex.fineX_spec hx).2.2.2 with ⟨k,_⟩ | ⟨k,_⟩ | ⟨k,_⟩ | ⟨_,_,_,_,_,hm⟩
   ·omega
   ·omega
   ·omega
   ·have:=(Pw.okM_len hm).2; omega
  ·rw [if_neg hc]; exact h
theorem allX_fine {t : Trie.T} {l : List Ex.Tx} (h8 : l.length ≤ 8) (hf : l.all Ex.fineX = true) : allX t l = (Ex.allGo t l [],0):=by
 unfold allX
 rw [if_neg (by omega),if_neg (by rw [hf]; decide)]
set_option maxRecDepth 100000 in
set_option maxHeartbeats 4000000 in
theorem law_ExecParts (w : World) (A : Option Addr) (c : Nat) (l : List Ex.Ac) (B : Option Addr) (d : Nat) (set : List Pw.Mem) (C : Option Addr) (e0 : Nat) (its : List Trie.KV) (h : StartAt w A l B set C its) (D : Option Addr) (f : Nat) (L : List TxM) (HL : TxsAt w D L) (hf : L.length ≤ f) (at_ : Int) (hT : Tbl w) :
  Calls Tryd.prog 6 #[.agg #[.slice A l.length c,.slice B set.length d,.slice C its.length e0],.slice D L.length f,.int .i64 at_] w fun e w'=>e = .returned (.bool true) ∧ Below w.heap.size w w':=by
 have HP : Hid (∀ w',Below w.heap.size w w' → (fun e w'=>e = Ending.returned (.bool true) ∧ Below w.heap.size w w') (Ending.returned (.bool true)) w'):=Lib.hid (fun W' a2=>⟨rfl,a2⟩)
 generalize (fun e w'=>e = Ending.returned (.bool true) ∧ Below w.heap.size w w') = P at HP ⊢
 have HTb:=Lib.hid hT
 have HLL:=Lib.hid HL
 have HFf:=Lib.hid hf
 have HGn:=Lib.hid (fun W (hW : Below w.heap.size w W)=>law16_genesis W A c l B d set C e0 its (h.next hW) (hT.next hW))
 have HBg:=Lib.hid (fun W (hW : Below w.heap.size w W)=>law16_big W A c l B d set C e0 its (h.next hW) D f L (HL.next hW))
 have HCt:=Lib.hid (Ex.genW_good l set)
 generalize Ex.genW l set = r at *
 obtain ⟨t0,cd⟩:=r
 simp only at HCt
 clear h HL hT hf
 go_enter Tryd.func6,Tryd.ntmps6
 go_upto_region 1 with fail
 have F0:=Live.ha (Lib.hid (Live.start w)) #[.slice A l.length c,.slice B set.length d,.slice C its.length e0] 26
 generalize w.alloc (.cells #[.slice A l.length c,.slice B set.length d,.slice C its.length e0] 26) = W0 at F0 ⊢
 generalize w.heap.size = sb at F0 ⊢
 go_wp2_with fail
 refine (law16_works _ (HTb.out.next F0.out.b)).mono ?_
 rintro e w1 ⟨rfl,hb⟩
 have F1:=Live.hb F0 hb
 clear hb F0
 have k0_0 : w1.cell? ⟨sb,0,none⟩ = some (.slice A l.length c):=F1.out.cell 0 0 rfl rfl; have k0_1 : w1.cell? ⟨sb,1,none⟩ = some (.slice B set.length d):=F1.out.cell 0 1 rfl rfl; have k0_2 : w1.cell? ⟨sb,2,none⟩ = some (.slice C its.length e0):=F1.out.cell 0 2 rfl rfl
 go_wp2_with fail
 refine (HGn.out _ F1.out.b).mono ?_
 rintro e w2 ⟨v2,rfl,hb,hk2,hn2⟩
 have F2:=Live.hb F1 hb
 clear hb F1 k0_0 k0_1 k0_2 HGn
 have k0_0 : w2.cell? ⟨sb,0,none⟩ = some (.slice A l.length c):=F2.out.cell 0 0 rfl rfl; have k0_1 : w2.cell? ⟨sb,1,none⟩ = some (.slice B set.length d):=F2.out.cell 0 1 rfl rfl; have k0_2 : w2.cell? ⟨sb,2,none⟩ = some (.slice C its.length e0):=F2.out.cell 0 2 rfl rfl
 simp only at hk2 hn2
 by_cases hc : cd = 0
 rotate_left
 ·obtain rfl:=hn2 hc
  clear hk2 hn2 hc
  go_wp2_with fail
  refine (HBg.out _ F2.out.b).mono ?_
  rintro e w3 ⟨b,rfl,hb,_⟩
  have F3:=Live.hb F2 hb
  clear hb F2 k0_0 k0_1 k0_2 HBg
  cases b with
  | true =>
   go_wp2_with fail
   exact HP.out _ F3.out.b
  | false =>
   go_wp2_with fail
   exact HP.out _ F3.out.b
 have K2:=Lib.hid (hk2 hc)
 obtain ⟨_,p2,x2,rfl,_⟩:=id K2.out
 clear hk2 hn2 hc
 go_wp2_with fail
 refine (HBg.out _ F2.out.b).mono ?_
 rintro e w3 ⟨b,rfl,hb,hbg⟩
 have F3:=Live.hb F2 hb
 have K3:=Lib.hid (K2.out.next hb)
 clear hb F2 k0_0 k0_1 k0_2 HBg K2 hbg
 cases b with
 | true =>
  go_wp2_with fail
  exact HP.out _ F3.out.b
 | false =>
  by_cases h8 : 8 < L.length
  ·have h8' : (8 : Int) < L.length:=by omega
   clear h8
   go_wp2_with fail
   exact HP.out _ F3.out.b
  have h8' : ((8 : Int) < L.length) = False:=by simp; omega
  have HL8:=Lib.hid (Nat.le_of_not_lt h8)
  have hl8 : (L.length : Int) ≤ 8:=by omega
  have HBw:=Lib.hid (fun W=>book_Below16 at_ (L.length + 1) W (by omega) (by omega))
  rw [show ((L.length + 1 : Nat) : Int) = (L.length : Int) + 1 by omega] at HBw
  clear h8
  go_wp2_with fail
  refine (HBw.out _).mono ?_
  rintro e w4 ⟨k,hk,rfl,rfl⟩
  have HKk : Hid (k ≤ L.length):=Lib.hid (by omega)
  obtain ⟨D1,f1,hcut1,hat1⟩:=tx_cut_to D L f k HKk.out HFf.out
  obtain ⟨D2,f2,hcut2,hat2⟩:=tx_cut_from D L f k HKk.out HFf.out
  have HA1:=Lib.hid hat1
  have HA2:=Lib.hid hat2
  clear hat1 hat2 hk HBw
  have HAl:=Lib.hid (exec_All w3 t0 _ K3.out (by have:=HCt.out.2; omega) (HTb.out.next F3.out.b) L D f (HLL.out.next F3.out.b))
  have h8m : (L.map (·.1)).length ≤ 8:=by rw [List.length_map]; exact HL8.out
  have hP1 : Hid (∀ W v,Below w.heap.size w W → TrieP W t0 v → Calls Tryd.prog 16 #[v,.slice D1 k f1] W (AllEnd W (allX t0 ((L.map (·.1)).take k)))):=Lib.hid (fun W v hW hk=>by
   have:=exec_All W t0 v hk (by have:=HCt.out.2; omega) (HTb.out.next hW) (L.take k) D1 f1 (HA1.out _ (HLL.out.next hW))
   rwa [List.length_take,Nat.min_eq_left HKk.out,List.map_take] at this)
  have hP2 : Hid (∀ t W v,Trie.count t ≤ 900 → Below w.heap.size w W → TrieP W t v → Calls Tryd.prog 16 #[v,.slice D2 (L.length - k) f2] W (AllEnd W (allX t ((L.map (·.1)).drop k)))):=Lib.hid (fun t W v hc hW hk=>by
   have:=exec_All W t v hk hc (HTb.out.next hW) (L.drop k) D2 f2 (HA2.out _ (HLL.out.next hW))
   rwa [List.length_drop,List.map_drop] at this)
  have HKi : (0 : Int) ≤ k:=by omega
  have HKj : (k : Int) ≤ L.length:=by have:=HKk.out; omega
  by_cases hfn : (L.map (·.1)).all Ex.fineX = true
  rotate_left
  ·have hx : allX t0 (L.map (·.1)) = ((.nil, [], []),150):=by
    unfold allX
    rw [if_neg (by omega),if_pos (by simpa using hfn)]
   rw [hx] at HAl
   clear hx hfn h8m
   go_wp2_with fail
   refine HAl.out.mono ?_
   rintro e w5 ⟨v5,A5,c5,B5,d5,rfl,hb,_,hn,_,_⟩
   obtain rfl:=hn (by simp)
   have F5:=Live.hb F3 hb
   have K5:=Lib.hid (K3.out.next hb)
   clear hb hn F3 K3
   go_wp2_with fail
   refine (hP1.out _ _ F5.out.b K5.out).mono ?_
   rintro e w6 ⟨v6,A6,c6,B6,d6,rfl,hb,_,_,_,_⟩
   have F6:=Live.hb F5 hb
   clear hb F5 K5
   go_wp2_with fail
   exact HP.out _ F6.out.b
  have hx:=allX_fine (t:=t0) h8m hfn
  have hf1 : ((L.map (·.1)).take k).all Ex.fineX = true:=List.all_eq_true.2 (fun x hx=>List.all_eq_true.1 hfn x (List.mem_of_mem_take hx))
  have hf2 : ((L.map (·.1)).drop k).all Ex.fineX = true:=List.all_eq_true.2 (fun x hx=>List.all_eq_true.1 hfn x (List.mem_of_mem_drop hx))
  have hx1:=allX_fine (t:=t0) (l:=(L.map (·.1)).take k) (by rw [List.length_take]; omega) hf1
  have hx2:=fun t=>allX_fine (t:=t) (l:=(L.map (·.1)).drop k) (by rw [List.length_drop]; omega) hf2
  rw [hx] at HAl
  simp only [hx1] at hP1
  simp only [hx2] at hP2
  obtain ⟨q1,q2,q3⟩:=Ex.allGo_parts ((L.map (·.1)).take k) ((L.map (·.1)).drop k) t0
  rw [List.take_append_drop] at q1 q2 q3
  obtain ⟨g1,g2,g3⟩:=Ex.allGo_good ((L.map (·.1)).take k) t0 [] HCt.out.1
  have hgA:=Ex.allGo_good (L.map (·.1)) t0 [] HCt.out.1
  have hcP : Trie.count (Ex.allGo t0 ((L.map (·.1)).take k) []).1 ≤ 100:=by have:=HCt.out.2; rw [List.length_take] at g2; omega
  have hcA : Trie.count (Ex.allGo t0 (L.map (·.1)) []).1 ≤ 100:=by have:=HCt.out.2; have:=hgA.2.1; omega
  have hlA : (Ex.allGo t0 (L.map (·.1)) []).2.1.length ≤ 8:=by rw [hgA.2.2]; exact h8m
  have hlP : (Ex.allGo t0 ((L.map (·.1)).take k) []).2.1.length ≤ 8:=by rw [g3,List.length_take]; omega
  have HQ3:=Lib.hid q3
  have HMl : Hid ((Ex.allGo t0 (L.map (·.1)) []).2.2.length ≤ 1048576):=Lib.hid (allGo_mlen _ _ _ (by simp))
  clear hx hx1 hx2 hf1 hf2 hfn h8m g1 g2 g3 hgA q3
  generalize Ex.allGo t0 (L.map (·.1)) [] = aA at *
  generalize Ex.allGo t0 ((L.map (·.1)).take k) [] = aP at *
  obtain ⟨tP,RP,MP⟩:=aP
  simp only at q1 q2 HQ3 hcP hlP
  have hP2:=Lib.hid (fun W v=>hP2.out tP W v (by omega))
  generalize Ex.allGo tP ((L.map (·.1)).drop k) [] = aQ at *
  obtain ⟨tQ,RQ,MQ⟩:=aQ
  obtain ⟨tA,RA,MA⟩:=aA
  simp only at q1 q2 HQ3 HMl hcA hlA
  subst q1
  have HRA : Hid (RA = RP ++ RQ):=Lib.hid q2
  clear q2
  have HLen:=Lib.hid (And.intro hcA (And.intro hlA hlP))
  clear hcA hlA hlP hcP
  go_wp2_with fail
  refine HAl.out.mono ?_
  rintro e w5 ⟨v5,A5,c5,B5,d5,rfl,hb,hk5,_,own5,ownM5⟩
  have F5:=Live.hb F3 hb
  have K5:=Lib.hid (And.intro (K3.out.next hb) (hk5 (by first | exact trivial | rfl)))
  have O5:=Lib.hid (And.intro (Reads.of_own own5) (Reads.of_own ownM5))
  clear hb hk5 own5 ownM5 F3 K3 HAl
  go_wp2_with fail
  refine (hP1.out _ _ F5.out.b K5.out.1).mono ?_
  rintro e w6 ⟨v6,A6,c6,B6,d6,rfl,hb,hk6,_,own6,ownM6⟩
  have F6:=Live.hb F5 hb
  have K6:=Lib.hid (And.intro (K5.out.2.next hb) (hk6 (by first | exact trivial | rfl)))
  have O6:=Lib.hid (And.intro ((O5.out.1.below hb).more hb.size) ((O5.out.2.below hb).more hb.size))
  have P6:=Lib.hid (And.intro (Reads.of_own own6) (Reads.of_own ownM6))
  clear hb hk6 own6 ownM6 F5 K5 O5 hP1
  go_wp2_with fail
  refine (hP2.out _ _ F6.out.b K6.out.2).mono ?_
  rintro e w7 ⟨v7,A7,c7,B7,d7,rfl,hb,hk7,_,own7,ownM7⟩
  have F7:=Live.hb F6 hb
  have K7:=Lib.hid (And.intro (K6.out.1.next hb) (hk7 (by first | exact trivial | rfl)))
  have O7:=Lib.hid (And.intro ((O6.out.1.below hb).more hb.size) ((O6.out.2.below hb).more hb.size))
  have P7:=Lib.hid (And.intro ((P6.out.1.below hb).more hb.size) ((P6.out.2.below hb).more hb.size))
  have Q7:=Lib.hid (And.intro (Reads.of_own own7) (Reads.of_own ownM7))
  clear hb hk7 own7 ownM7 F6 K6 O6 P6 hP2
  go_upto_if 78 with fail
  go_cut [19] (fun s19 wx => ∃ Mx dx,s19 = .slice Mx MA.length dx ∧ w7 = wx ∧ Reads w7 w7.heap.size 2 Mx MA.length (mcells MA))
  case first =>
   cases MQ with
   | nil =>
    have e : MA = MP:=HQ3.out
    subst e
    go_wp2_with fail
    go_meet
    exact ⟨_,_,rfl,rfl,P7.out.2⟩
   | cons x r =>
    have e : MA = x :: r:=HQ3.out
    subst e
    have hz : (((x :: r).length : Int) == 0) = false:=by rw [beq_eq_false_iff_ne]; simp; omega
    generalize hxr : x :: r = xr at *
    clear hxr
    go_wp2_with fail
    go_meet
    exact ⟨_,_,rfl,rfl,Q7.out.2⟩
  case rest =>
  obtain ⟨Mx,dx,h19,hw7,hMx⟩:=hcut
  subst h19
  subst hw7
  have RM7:=Lib.hid hMx
  clear hMx
  obtain ⟨_,pA,xA,rfl,_⟩:=id K7.out.1
  obtain ⟨_,pQ,xQ,rfl,_⟩:=id K7.out.2
  have hsm : (Trie.sumT tA == Trie.sumT tA) = true:=by simp
  have HRt:=Lib.hid (fun W v (hk : TrieP W tA v)=>trie_Root W tA v hk)
  have HIt:=Lib.hid (fun W v (hk : TrieP W tA v)=>trie_Items W tA v hk (by have:=HLen.out.1; omega))
  have hil : (Trie.itemsW tA).length ≤ 1000:=by rw [Trie.itemsW,List.length_map,Trie.length_items]; have:=HLen.out.1; omega
  have HIl:=Lib.hid hil
  generalize Trie.sumT tA = sm at HRt hsm
  generalize Trie.itemsW tA = iq at HIt HIl hil
  clear hil
  go_wp2_with fail
  refine (HRt.out _ _ K7.out.2).mono ?_
  rintro e w8 ⟨rfl,rfl⟩
  go_wp2_with fail
  refine (HRt.out _ _ K7.out.1).mono ?_
  rintro e w8 ⟨rfl,rfl⟩
  clear HRt
  go_wp2_with fail
  refine (HIt.out _ _ K7.out.2).mono ?_
  rintro e w8 ⟨A8,n8,c8,rfl,hn8,own8,hb⟩
  subst hn8
  have F8:=Live.hb F7 hb
  have B78:=Lib.hid hb
  have R8:=Lib.hid (Reads.of_own own8)
  have K8:=Lib.hid (K7.out.1.next hb)
  clear hb own8 F7 K7
  go_wp2_with fail
  refine (HIt.out _ _ K8.out).mono ?_
  rintro e w9 ⟨A9,n9,c9,rfl,hn9,own9,hb⟩
  subst hn9
  have F9:=Live.hb F8 hb
  have B79:=Lib.hid (B78.out.nxt hb)
  have R9:=Lib.hid (And.intro ((R8.out.below hb).more hb.size) (Reads.of_own own9))
  clear hb own9 F8 K8 R8 B78 HIt
  go_wp2_with fail
  refine (book_SameItems A8 A9 iq.length iq.length c8 c9 iq iq w9 R9.out.1 R9.out.2 (by have:=HIl.out; omega) (by have:=HIl.out; omega)).mono ?_
  rw [decide_eq_true rfl]
  rintro e w10 ⟨rfl,hb⟩
  have F10:=Live.hb F9 hb
  have B710:=Lib.hid (B79.out.nxt hb)
  have P10:=Lib.hid ((P7.out.1.below B710.out).more B710.out.size)
  have Q10:=Lib.hid ((Q7.out.1.below B710.out).more B710.out.size)
  have O10:=Lib.hid (And.intro ((O7.out.1.below B710.out).more B710.out.size) (And.intro ((O7.out.2.below B710.out).more B710.out.size) ((RM7.out.below B710.out).more B710.out.size)))
  clear hb F9 R9 B79 P7 Q7 O7 RM7
  obtain ⟨i0,hii0,hz0,hz1,hz2⟩:=info_parts info_rc
  have honeP:=rcs_one RP
  have honeQ:=rcs_one RQ
  obtain ⟨hl1,hl2,hl3⟩:=HLen.out
  have hlen:=congrArg List.length HRA.out
  rw [List.length_append] at hlen
  have hq8 : RP.length + RQ.length ≤ 8:=by omega
  clear hlen
  have EA : Hid (Below w10.heap.size w10 (w10.alloc (.cells #[] 91)) ∧ (w10.alloc (.cells #[] 91)).ownsRow w10.heap.size 91 3 (.slice (some ⟨w10.heap.size,0,none⟩) 0 0) 0 []):=Lib.hid ⟨(Below.refl _ w10).alloc (Nat.le_refl _) _,World.ownsRow_made w10 #[] 0 (Nat.le_refl _) (by simp only [maxLen]; omega) rfl⟩
  go_wp2_with (first | ((with_reducible refine at_op 99 ?_); refine wpList_append_want (w10.alloc (.cells #[] 91)) (by rfl) _ _ 48 rfl w10.heap.size 91 i0 _ 3 32 Tryd.underlying48 hii0 hz0 hz1 hz2 rfl (by decide) (.slice (some ⟨w10.heap.size,0,none⟩) 0 0) 0 [] rfl EA.out.2 w10.heap.size A6 RP.length c6 (rcs RP) rfl (P10.out.below EA.out.1) honeP (by simp only [maxLen]; omega) (by omega) EA.out.1.size ?_; intro v11 w11 own11 hg11 _; rw [Nat.zero_add,List.nil_append] at own11; obtain ⟨A11,c11,rfl,_,_,_⟩:=own_form own11; have B11 : Hid (Below w10.heap.size w10 w11):=Lib.hid (EA.out.1.grown hg11 EA.out.1.size (fun k e=>by have e : some w10.heap.size = some k:=e; injection e with e; omega)); have O11:=Lib.hid own11; clear own11 hg11) | ((with_reducible refine at_op 101 ?_); refine wpList_append_want w11 (by rfl) _ _ 48 rfl w10.heap.size 91 i0 _ 3 32 Tryd.underlying48 hii0 hz0 hz1 hz2 rfl (by decide) (.slice A11 RP.length c11) RP.length (rcs RP) rfl O11.out w10.heap.size A7 RQ.length c7 (rcs RQ) rfl (Q10.out.below B11.out) honeQ (by simp only [maxLen]; omega) (by omega) B11.out.size ?_; intro v12 w12 own12 hg12 _; obtain ⟨A12,c12,rfl,_,_,_⟩:=own_form own12; have B12 : Hid (Below w10.heap.size w10 w12):=Lib.hid (B11.out.grown hg12 B11.out.size (fun k e=>(O11.out.lt k e).1)); have O12:=Lib.hid own12; clear own12 hg12))
  have HSR : Hid (Calls Tryd.prog 21 #[.slice A12 (RP.length + RQ.length) c12,.slice A5 RA.length c5] w12 fun e w'=>e = .returned (.bool true) ∧ Below w12.heap.size w12 w'):=Lib.hid (by
   have r1:=Reads.of_own O12.out
   have:=book_SameReceipts A12 A5 c12 c5 (RP ++ RQ) RA w12 (by rw [List.length_append,rcs,List.flatMap_append]; exact r1) ((O10.out.1.below B12.out).more B12.out.size) (by rw [List.length_append]; omega) (by omega)
   rw [List.length_append,decide_eq_true HRA.out.symm] at this
   exact this)
  have F12 : Hid (Live w w12 []):=Lib.hid ⟨F10.out.b.nxt B12.out,by simp,List.Pairwise.nil⟩
  have M12:=Lib.hid (And.intro ((O10.out.2.1.below B12.out).more B12.out.size) ((O10.out.2.2.below B12.out).more B12.out.size))
  clear F10 P10 Q10 O10 EA O11 O12 B11 B12 honeP honeQ hq8 hl1 hl2 hl3 hii0 hz0 hz1 hz2
  go_wp2_with fail
  refine HSR.out.mono ?_
  rintro e w13 ⟨rfl,hb⟩
  have F13:=Live.hb F12 hb
  have M13:=Lib.hid (And.intro ((M12.out.1.below hb).more hb.size) ((M12.out.2.below hb).more hb.size))
  clear hb F12 M12 HSR
  go_wp2_with fail
  refine (book_SameMembers B5 Mx d5 dx MA MA w13 M13.out.1 M13.out.2 HMl.out HMl.out).mono ?_
  rw [decide_eq_true rfl]
  rintro e w14 ⟨rfl,hb⟩
  have F14:=Live.hb F13 hb
  go_wp2_with fail
  exact HP.out _ F14.out.b
end Go.Proofs.YtomnlhbioijfhaaDoor
