import Derived.Test.YtomnlhbioijfhaaGreatDoorJ18
import Derived.Shelf.Abstract
set_option linter.unusedSimpArgs false
set_option linter.unusedVariables false
namespace Go.Proofs.YtomnlhbioijfhaaGreatDoor
open Go.RowKit Go.Instr
attribute [local go_sem] ba_get ByteArray.mk_append_mk
attribute [local go_sem ↓] Go.wp_at_zero Go.wp_at_succ
namespace Trie
open Nib
def goT (may : List UInt8 → Bool) : T → List UInt8 → List (List UInt8 × T)
 | .nil,_ => []
 | .leaf p v,pl=>if may pl then [(pl,.leaf p v)] else []
 | .ext p t,pl=>if may pl then (pl,.ext p t) :: goT may t (pl ++ p) else []
 | .branch v kids,pl=>if may pl then (pl,.branch v kids) :: (List.finRange 16).flatMap fun i=>goT may (kids i) (pl ++ [hb i]) else []
structure At (pl : List UInt8) (t : T) : Prop where
 wf : wf t
 fit : fit pl = true
 all : ∀ q,Nib.fit q = true → look t q ≠ [] → (pl ++ q).length ≤ 16 ∧ (pl ++ q).length % 2 = 0 ∧ (look t q).length ≤ 32
theorem At.top {t : T} (h : Good t) : At [] t:=⟨h.wf,rfl,fun q hq hl=>⟨(h.small q hq hl).1,(h.even q hq hl).1,(h.small q hq hl).2⟩⟩
theorem hb_fit (i : Fin 16) : Nib.fit [hb i] = true:=by
 obtain ⟨_,e2⟩:=ix_of i
 exact fit_cons'.2 ⟨e2,rfl⟩
theorem At.kid {pl : List UInt8} {v : List UInt8} {kids : Fin 16 → T} (h : At pl (.branch v kids)) (i : Fin 16) : At (pl ++ [hb i]) (kids i):=by
 refine ⟨h.wf.1 i,fit_append.2 ⟨h.fit,hb_fit i⟩,fun q hq hl => ?_⟩
 obtain ⟨e1,e2⟩:=ix_of i
 have:=h.all (hb i :: q) (fit_cons'.2 ⟨e2,hq⟩) (by simp only [look,hb,e1]; exact hl)
 simp only [look,hb,e1] at this
 rw [List.append_assoc]
 exact this
theorem At.below {pl p : List UInt8} {t : T} (h : At pl (.ext p t)) : At (pl ++ p) t:=by
 refine ⟨h.wf.2.2.2,fit_append.2 ⟨h.fit,h.wf.1⟩,fun q hq hl => ?_⟩
 have:=h.all (p ++ q) (fit_append.2 ⟨h.wf.1,hq⟩) (by rw [look_ext]; exact hl)
 rw [look_ext] at this
 rw [List.append_assoc]
 exact this
theorem At.small {pl : List UInt8} {t : T} (h : At pl t) : Trie.small t:=fun q hq hl=>by
 have:=h.all q hq hl
 rw [List.length_append] at this
 exact ⟨by omega,this.2.2⟩
theorem At.len {pl : List UInt8} {t : T} (h : At pl t) (hn : t ≠ .nil) : pl.length ≤ 16:=by
 obtain ⟨q,g1,g2⟩:=look_some t h.wf (by cases t <;> simp_all [isNil])
 have:=(h.all q g1 g2).1
 rw [List.length_append] at this; omega
def goKids (may : List UInt8 → Bool) (kids : Fin 16 → T) (pl : List UInt8) (i : Nat) : List (List UInt8 × T):=((List.finRange 16).take i).flatMap fun j=>goT may (kids j) (pl ++ [hb j])
theorem goKids_succ (may : List UInt8 → Bool) (kids : Fin 16 → T) (pl : List UInt8) (i : Fin 16) : goKids may kids pl (i.val + 1) = goKids may kids pl i.val ++ goT may (kids i) (pl ++ [hb i]):=by
 unfold goKids
 rw [take_finRange,List.flatMap_append]; simp
theorem goKids_all (may : List UInt8 → Bool) (kids : Fin 16 → T) (pl : List UInt8) : goKids may kids pl 16 = (List.finRange 16).flatMap fun i=>goT may (kids i) (pl ++ [hb i]):=by
 unfold goKids
 rw [List.take_of_length_le (by simp)]
end Trie
theorem goKids_le (may : List UInt8 → Bool) (kids : Fin 16 → Trie.T) (pl : List UInt8) (i : Nat) : (Trie.goKids may kids pl i).length ≤ (Trie.goKids may kids pl 16).length:=by
 unfold Trie.goKids
 conv=>rhs; rw [List.take_of_length_le (show (List.finRange 16).length ≤ 16 by simp)]
 conv=>rhs; rw [← List.take_append_drop i (List.finRange 16),List.flatMap_append]
 rw [List.length_append]; omega
structure Visit (N : Nat) (w0 : World) (f : FuncId) (caps : Array Value) (may : List UInt8 → Bool) (I : List (List UInt8 × Trie.T) → World → Prop) : Prop where
 enters : Enters Tryz.prog f
 low : ∀ D W,I D W → Below w0.heap.size w0 W
 next : ∀ D W W',I D W → Below W.heap.size W W' → I D W'
 calls : ∀ D pl t x W,D.length ≤ N → I D W → t ≠ .nil → Trie.At pl t → KnotP w0 t x → Calls Tryz.prog f (#[.string ⟨pl.toArray⟩,x] ++ caps) W fun e W'=>e = .returned (.bool (may pl)) ∧ I (if may pl then D ++ [(pl,t)] else D) W'
theorem flat_nil {α β : Type} (l : List α) : (l.flatMap fun _=>([] : List β)) = []:=by
 induction l with
 | nil=>rfl
 | cons a l ih=>simp
def WalkEnd (I : List (List UInt8 × Trie.T) → World → Prop) (D : List (List UInt8 × Trie.T)) (e : Ending) (w' : World) : Prop:=e = .returned (.tuple #[]) ∧ I D w'
set_option maxHeartbeats 400000 in
theorem walk_nil (f : FuncId) (caps : Array Value) (I : List (List UInt8 × Trie.T) → World → Prop) (D : List (List UInt8 × Trie.T)) (s : ByteArray) (W : World) (hI : I D W) :
  Calls Tryz.prog 58 #[.pointer none,.string s,.func (.func f) #[] caps] W (WalkEnd I D):=by
 have HP : Hid (∀ w',W = w' → WalkEnd I D (.returned (.tuple #[])) w'):=Lib.hid (fun w' h=>by subst h; exact ⟨rfl,hI⟩)
 generalize WalkEnd I D = P at HP ⊢
 clear hI
 go_enter Tryz.func58,Tryz.ntmps58
 go_wp2
 go_end0
 exact HP.out _ rfl
set_option maxRecDepth 100000 in
set_option maxHeartbeats 1000000 in
theorem walk_loop (N : Nat) (w0 : World) (f : FuncId) (caps : Array Value) (may : List UInt8 → Bool) (I : List (List UInt8 × Trie.T) → World → Prop) (hnext : ∀ D W W',I D W → Below W.heap.size W W' → I D W') (kids : Fin 16 → Trie.T) (ps : List Value) (hps : ps.length = 16) (pl : List UInt8) (hpl : pl.length ≤ 1000)
  (hk : ∀ i : Fin 16,KnotP w0 (kids i) (ps.getD i.val undef))
  (IH : ∀ (i : Fin 16) (x : Value) (W : World) (D : List (List UInt8 × Trie.T)),(D ++ Trie.goT may (kids i) (pl ++ [Trie.hb i])).length ≤ N → I D W → KnotP w0 (kids i) x → Calls Tryz.prog 58 #[x,.string ⟨(pl ++ [Trie.hb i]).toArray⟩,.func (.func f) #[] caps] W (WalkEnd I (D ++ Trie.goT may (kids i) (pl ++ [Trie.hb i]))))
  (D0 : List (List UInt8 × Trie.T)) (W0 : World) (hN : (D0 ++ Trie.goKids may kids pl 16).length ≤ N) (hI : I D0 W0)
  (Q : Exit → Act → World → Prop)
  (hQ : ∀ (s0 s1 s3 s4 s5 s6 s7 s8 s9 s10 s11 s12 s13 s14 s15 s16 s17 s18 s19 s20 s21 s22 s23 s24 s25 s26 s27 s28 s29 s30 s31 s32 s33 s34 s35 s36 s37 s38 s39 s40 s41 s42 s43 s44 s45 s46 s47 s48 s49 s50 s51 s52 s53 s54 : Value) (W2 : World),I (D0 ++ Trie.goKids may kids pl 16) W2 → Q (.exit 0) { tmps:=#[s0,s1,.func (.func f) #[] caps,s3,s4,s5,s6,s7,s8,s9,s10,s11,s12,s13,s14,s15,s16,s17,s18,s19,s20,s21,s22,s23,s24,s25,s26,s27,s28,s29,s30,s31,s32,s33,s34,s35,s36,s37,s38,s39,s40,s41,s42,s43,s44,s45,s46,s47,s48,s49,s50,s51,s52,s53,s54],defers := [] } W2)
  (s0 s3 s4 s5 s6 s7 s8 s9 s10 s11 s12 s13 s14 s15 s16 s17 s18 s19 s20 s21 s22 s23 s24 s25 s26 s27 s28 s29 s30 s31 s32 s33 s34 s35 s36 s37 s38 s39 s42 s43 s44 s45 s46 s47 s48 s49 s50 s51 s52 s53 s54 : Value) :
  Code.wp Tryz.prog (.loop (loopAt Tryz.f58 0)) Q { tmps:=#[s0,.string ⟨pl.toArray⟩,.func (.func f) #[] caps,s3,s4,s5,s6,s7,s8,s9,s10,s11,s12,s13,s14,s15,s16,s17,s18,s19,s20,s21,s22,s23,s24,s25,s26,s27,s28,s29,s30,s31,s32,s33,s34,s35,s36,s37,s38,s39,.agg ps.toArray,.int .i64 0,s42,s43,s44,s45,s46,s47,s48,s49,s50,s51,s52,s53,s54],defers := [] } W0:=by
 have HQ:=Lib.hid hQ
 clear hQ
 have Hk:=Lib.hid hk
 clear hk
 have HIH:=Lib.hid IH
 clear IH
 have HN:=Lib.hid hnext
 clear hnext
 have HNN:=Lib.hid hN
 clear hN
 refine wp_loop_ghost_k (fun k a wr => ∀ Φ : Act → Prop,(∀ (s0 s3 s4 s5 s6 s7 s8 s9 s10 s11 s12 s13 s14 s15 s16 s17 s18 s19 s20 s21 s22 s23 s24 s25 s26 s27 s28 s29 s30 s31 s32 s33 s34 s35 s36 s37 s38 s39 s42 s43 s44 s45 s46 s47 s48 s49 s50 s51 s52 s53 s54 : Value) (i : Nat),(i + k = 16 ∧ I (D0 ++ Trie.goKids may kids pl i) wr) → Φ { tmps:=#[s0,.string ⟨pl.toArray⟩,.func (.func f) #[] caps,s3,s4,s5,s6,s7,s8,s9,s10,s11,s12,s13,s14,s15,s16,s17,s18,s19,s20,s21,s22,s23,s24,s25,s26,s27,s28,s29,s30,s31,s32,s33,s34,s35,s36,s37,s38,s39,.agg ps.toArray,.int .i64 (i : Int),s42,s43,s44,s45,s46,s47,s48,s49,s50,s51,s52,s53,s54],defers := [] }) → Φ a) (16) ?_ ?_
 ·refine fun Φ hΦ=>hΦ _ _ _ _ _ _ _ _ _ _ _ _ _ _ _ _ _ _ _ _ _ _ _ _ _ _ _ _ _ _ _ _ _ _ _ _ _ _ _ _ _ _ _ _ _ _ _ _ _ _ _ (0) ?_
  exact ⟨rfl,by simpa [Trie.goKids] using hI⟩
 ·intro k1 a1 wr1 hI1 J1 K1 hJ1 hK1
  refine hI1 (fun a=>Code.wp _ _ _ a _) ?_
  clear hI1 a1
  intro s0 s1 s2 s3 s4 s5 s6 s7 s8 s9 s10 s11 s12 s13 s14 s15 s16 s17 s18 s19 s20 s21 s22 s23 s24 s25 s26 s27 s28 s29 s30 s31 s32 s33 s34 s35 s36 s37 s38 s39 s40 s41 s42 s43 s44 s45 s46 s47 s48 s49 s50 i hrel
  show Code.wp _ _ _ _ _
  conv=>arg 2; whnf
  obtain ⟨h1,hI1⟩:=hrel
  by_cases hi : i < 16
  ·have hi1 : (i : Int) < 16:=by omega
   have hix : (0 : Int) ≤ i:=by omega
   have HKn:=Lib.hid (Hk.out ⟨i,hi⟩)
   have HX:=fun w=>run_index_p ps hps i hi HKn.out.one w
   have HI:=Lib.hid (And.intro h1 hI1)
   have HS:=Lib.hid (Trie.goKids_succ may kids pl ⟨i,hi⟩)
   have hx : (ps.getD i undef) = .pointer none ∨ ∃ b,(ps.getD i undef) = .pointer (some ⟨b,0,none⟩):=by
    rcases HKn.out.form with ⟨_,h⟩ | ⟨b,_,_,h,_⟩
    ·exact .inl h
    ·exact .inr ⟨b,h⟩
   have cv:=conv1 wr1 (i : Int) hix (by omega)
   rw [show UInt8.ofNat ((i : Int)).toNat = UInt8.ofNat i by congr 1] at cv
   have hsum : pl.length + 1 ≤ 9223372036854775807:=by omega
   have HAl : Hid (I (D0 ++ Trie.goKids may kids pl i) (wr1.alloc (.cells #[.int .u8 (i : Int)] 5))):=Lib.hid (HN.out _ _ _ hI1 (by go_grown))
   have HBd : Hid ((D0 ++ Trie.goKids may kids pl i ++ Trie.goT may (kids ⟨i,hi⟩) (pl ++ [Trie.hb ⟨i,hi⟩])).length ≤ N):=Lib.hid (by
    have h1:=HNN.out
    have h2:=goKids_le may kids pl (i + 1)
    have h3:=congrArg List.length HS.out
    simp only [List.length_append] at h1 h3 ⊢
    omega)
   have HC:=Lib.hid (HIH.out ⟨i,hi⟩ (ps.getD i undef) _ _ HBd.out HAl.out HKn.out)
   rw [show Trie.hb ⟨i,hi⟩ = UInt8.ofNat i from rfl] at HC
   clear h1 hI1
   generalize ps.getD i undef = y at *
   clear hx
   go_wp2_with (go_at_call 58; refine HC.out.mono ?_; rintro e W3 ⟨rfl,hI3⟩)
   refine Handed.intro (16 - (i + 1)) ?_ (hJ1 _ _ _ (fun Φ hΦ=>hΦ _ _ _ _ _ _ _ _ _ _ _ _ _ _ _ _ _ _ _ _ _ _ _ _ _ _ _ _ _ _ _ _ _ _ _ _ _ _ _ _ _ _ _ _ _ _ _ _ _ _ _ (i + 1) ?_))
   ·have:=HI.out.1; omega
   ·refine ⟨by have:=HI.out.1; omega, ?_⟩
    rw [HS.out,← List.append_assoc]
    exact hI3
  ·have e16 : i = 16:=by omega
   subst e16
   have O:=Lib.hid hI1
   clear hI1 h1 hI
   go_wp2
   exact HQ.out _ _ _ _ _ _ _ _ _ _ _ _ _ _ _ _ _ _ _ _ _ _ _ _ _ _ _ _ _ _ _ _ _ _ _ _ _ _ _ _ _ _ _ _ _ _ _ _ _ _ _ _ _ _ _ O.out
set_option maxRecDepth 100000 in
set_option maxHeartbeats 1000000 in
theorem trie_walk (N : Nat) (w0 : World) (f : FuncId) (caps : Array Value) (may : List UInt8 → Bool) (I : List (List UInt8 × Trie.T) → World → Prop) (HV : Visit N w0 f caps may I) (t : Trie.T) : ∀ (pl : List UInt8) (x : Value) (D : List (List UInt8 × Trie.T)) (W : World),(D ++ Trie.goT may t pl).length ≤ N → I D W → Trie.At pl t → KnotP w0 t x →
  Calls Tryz.prog 58 #[x,.string ⟨pl.toArray⟩,.func (.func f) #[] caps] W (WalkEnd I (D ++ Trie.goT may t pl)):=by
 have HE:=HV.enters
 unfold Enters at HE
 have HV0:=Lib.hid HV
 clear HV
 have stop : ∀ (t : Trie.T) (pl : List UInt8) (x : Value) (D : List (List UInt8 × Trie.T)) (W : World),D.length ≤ N → I D W → Trie.At pl t → KnotP w0 t x → t ≠ .nil → may pl = false →
   Calls Tryz.prog 58 #[x,.string ⟨pl.toArray⟩,.func (.func f) #[] caps] W (WalkEnd I D):=by
  intro t pl x D W hN hI ha hk hn hm
  have HP : Hid (∀ w',I D w' → WalkEnd I D (.returned (.tuple #[])) w'):=Lib.hid (fun w' h=>⟨rfl,h⟩)
  have HC:=HV0.out.calls D pl _ _ W hN hI hn ha hk
  rw [hm] at HC
  obtain ⟨g,rfl⟩:=hk.ptr hn
  have HC:=Lib.hid HC
  generalize WalkEnd I D = P at HP ⊢
  clear hI ha hk hm hN
  rename_i HCold
  clear HCold
  go_enter Tryz.func58,Tryz.ntmps58
  go_wp2_with (go_at_fn f; refine HC.out.mono ?_; rintro e W1 ⟨rfl,hI1⟩)
  go_end0
  exact HP.out _ hI1
 induction t with
 | nil =>
  intro pl x D W hN hI ha hk
  rcases hk.form with ⟨_,rfl⟩ | ⟨b,_,h,_⟩
  ·simp only [Trie.goT,List.append_nil]
   exact walk_nil f caps I D _ W hI
  ·exact absurd rfl h
 | leaf p v =>
  intro pl x D W hN hI ha hk
  cases hm : may pl with
  | false =>
   rw [show Trie.goT may (.leaf p v) pl = [] by simp [Trie.goT,hm],List.append_nil]
   exact stop _ pl x D W (by rw [List.length_append] at hN; omega) hI ha hk (by simp) hm
  | true =>
   have HIH : ∀ (i : Fin 16) (x : Value) (W : World) (D : List (List UInt8 × Trie.T)),(D ++ Trie.goT may (Trie.kidsT (.leaf p v) i) (pl ++ [Trie.hb i])).length ≤ N → I D W → KnotP w0 (Trie.kidsT (.leaf p v) i) x → Calls Tryz.prog 58 #[x,.string ⟨(pl ++ [Trie.hb i]).toArray⟩,.func (.func f) #[] caps] W (WalkEnd I (D ++ Trie.goT may (Trie.kidsT (.leaf p v) i) (pl ++ [Trie.hb i]))):=by
    intro i x W D hN hI hk
    rcases hk.form with ⟨_,rfl⟩ | ⟨b,_,h,_⟩
    ·rw [show Trie.goT may (Trie.kidsT (.leaf p v) i) (pl ++ [Trie.hb i]) = [] from rfl,List.append_nil]
     exact walk_nil f caps I D _ W hI
    ·exact absurd rfl h
   have HP : Hid (∀ w',I (D ++ [(pl,Trie.T.leaf p v)] ++ Trie.goKids may (Trie.kidsT (Trie.T.leaf p v)) pl 16) w' → WalkEnd I (D ++ Trie.goT may (Trie.T.leaf p v) pl) (.returned (.tuple #[])) w'):=Lib.hid (fun w' h=>⟨rfl,by rw [Trie.goKids_all,List.append_assoc] at h; simpa [Trie.goT,hm,Trie.kidsT,Trie.noKids,flat_nil] using h⟩)
   have HBd : Hid ((D ++ [(pl,Trie.T.leaf p v)] ++ Trie.goKids may (Trie.kidsT (Trie.T.leaf p v)) pl 16).length ≤ N):=Lib.hid (by
    have : D ++ [(pl,Trie.T.leaf p v)] ++ Trie.goKids may (Trie.kidsT (Trie.T.leaf p v)) pl 16 = D ++ Trie.goT may (Trie.T.leaf p v) pl:=by
     rw [Trie.goKids_all,List.append_assoc]; simp [Trie.goT,hm,Trie.kidsT,Trie.noKids,flat_nil]
    rw [this]; exact hN)
   have HC:=HV0.out.calls D pl _ _ W (by rw [List.length_append] at hN; omega) hI (by simp) ha hk
   have hpl:=ha.len (by simp)
   rw [hm,if_pos rfl] at HC
   obtain ⟨g,ps,rfl,hps,hbk,hks⟩:=blk_of_knot hk (by simp)
   have HC:=Lib.hid HC
   have HLoop:=Lib.hid (walk_loop N w0 f caps may I HV0.out.next (Trie.kidsT (Trie.T.leaf p v)) ps hps pl (by omega) hks HIH)
   have HBK:=Lib.hid hbk
   have Hps:=Lib.hid hps
   have SZQ : (Tryz.prog.info? 118).map (·.size) = some ps.length:=by rw [hps]; exact info_ptrs
   generalize WalkEnd I (D ++ Trie.goT may (Trie.T.leaf p v) pl) = P at HP ⊢
   clear hI ha hk hm hbk hps hks HIH hN
   rename_i HCold
   clear HCold
   go_enter Tryz.func58,Tryz.ntmps58
   go_upto_region 1 with (go_at_fn f; refine HC.out.mono ?_; rintro e W1 ⟨rfl,hI1⟩; have HI1:=Lib.hid hI1; clear hI1; have F1:=KnotAt.of (Trie.sumsT_length _) Hps.out (HBK.out.below (HV0.out.low _ _ HI1.out) HBK.out.lt); have c0:=F1.node.c0; have kr:=F1.kids; clear F1)
   replace c0 : W1.cell? ⟨g,0,none⟩ = some (.int .i64 1):=c0
   go_wp2_with (with_reducible refine at_load 40 ?_; refine wpList_load_mid rfl 118 _ rfl g 19 rfl _ _ kr Tryz.underlying118 rfl SZQ ?_)
   refine HLoop.out _ W1 HBd.out HI1.out _ ?_ _ _ _ _ _ _ _ _ _ _ _ _ _ _ _ _ _ _ _ _ _ _ _ _ _ _ _ _ _ _ _ _ _ _ _ _ _ _ _ _ _ _ _ _ _ _ _ _ _ _ _
   clear kr c0
   intro s0 s1 s3 s4 s5 s6 s7 s8 s9 s10 s11 s12 s13 s14 s15 s16 s17 s18 s19 s20 s21 s22 s23 s24 s25 s26 s27 s28 s29 s30 s31 s32 s33 s34 s35 s36 s37 s38 s39 s40 s41 s42 s43 s44 s45 s46 s47 s48 s49 s50 s51 s52 s53 s54 W2 hI2
   have HI2:=Lib.hid hI2
   clear hI2
   go_wp2
   go_end0
   exact HP.out _ HI2.out
 | ext p s ih =>
  intro pl x D W hN hI ha hk
  cases hm : may pl with
  | false =>
   rw [show Trie.goT may (.ext p s) pl = [] by simp [Trie.goT,hm],List.append_nil]
   exact stop _ pl x D W (by rw [List.length_append] at hN; omega) hI ha hk (by simp) hm
  | true =>
   have HP : Hid (∀ w',I (D ++ [(pl,Trie.T.ext p s)] ++ Trie.goT may s (pl ++ p)) w' → WalkEnd I (D ++ Trie.goT may (.ext p s) pl) (.returned (.tuple #[])) w'):=Lib.hid (fun w' h=>⟨rfl,by rw [List.append_assoc] at h; simpa [Trie.goT,hm] using h⟩)
   have HC:=HV0.out.calls D pl _ _ W (by rw [List.length_append] at hN; omega) hI (by simp) ha hk
   rw [hm,if_pos rfl] at HC
   have hp16:=Trie.small_ext_path ha.wf ha.small
   have hpl:=ha.len (by simp)
   have hnl : (9223372036854775807 < pl.length + p.length) = False:=by simp; omega
   obtain ⟨g,ps,rfl,hps,hbk,hks⟩:=blk_of_knot hk (by simp)
   have hsn : s ≠ .nil:=fun e=>by have:=ha.wf.2.2.1; rw [e] at this; simp [Trie.isBranch] at this
   obtain ⟨b2,hy⟩:=(hks 0).ptr hsn
   have hk0 : KnotP w0 s (.pointer (some ⟨b2,0,none⟩)):=by rw [← hy]; exact hks 0
   have HIH : Hid (∀ W,I (D ++ [(pl,.ext p s)]) W → Calls Tryz.prog 58 #[.pointer (some ⟨b2,0,none⟩),.string ⟨(pl ++ p).toArray⟩,.func (.func f) #[] caps] W (WalkEnd I (D ++ [(pl,Trie.T.ext p s)] ++ Trie.goT may s (pl ++ p)))) :=
    Lib.hid (fun W hW=>ih (pl ++ p) _ _ W (by
     have : D ++ [(pl,Trie.T.ext p s)] ++ Trie.goT may s (pl ++ p) = D ++ Trie.goT may (.ext p s) pl:=by
      rw [List.append_assoc]; simp [Trie.goT,hm]
     rw [this]; exact hN) hW ha.below hk0)
   have HC:=Lib.hid HC
   have HBK:=Lib.hid hbk
   have Hps:=Lib.hid hps
   have HY : Hid (ps.getD 0 undef = .pointer (some ⟨b2,0,none⟩)):=Lib.hid hy
   generalize WalkEnd I (D ++ Trie.goT may (.ext p s) pl) = P at HP ⊢
   clear hI ha hk hm hbk hps hks hy hk0 hsn ih stop hN
   rename_i HCold
   clear HCold
   go_enter Tryz.func58,Tryz.ntmps58
   go_upto_region 1 with (go_at_fn f; refine HC.out.mono ?_; rintro e W1 ⟨rfl,hI1⟩; have HI1:=Lib.hid hI1; clear hI1; have F1:=KnotAt.of (Trie.sumsT_length _) Hps.out (HBK.out.below (HV0.out.low _ _ HI1.out) HBK.out.lt); have HLt:=Lib.hid (HBK.out.below (HV0.out.low _ _ HI1.out) HBK.out.lt).lt; have c0:=F1.node.c0; have c1:=F1.node.c1; have kr:=F1.kids; clear F1)
   replace c0 : W1.cell? ⟨g,0,none⟩ = some (.int .i64 2):=c0
   replace c1 : W1.cell? ⟨g,1,none⟩ = some (.string ⟨p.toArray⟩):=c1
   have c19 : W1.cell? ⟨g,19,none⟩ = some (.pointer (some ⟨b2,0,none⟩)):=by
    rw [← HY.out]
    exact kr 0 _ (by have:=Hps.out; rw [List.getD_eq_getElem?_getD,List.getElem?_eq_getElem (show 0 < ps.length by omega)]; rfl)
   clear kr
   go_upto_region 2 with fail
   go_region_held3 (fun w'=>w'.cell? ⟨g,1,none⟩ = some (.string ⟨p.toArray⟩) ∧ w'.cell? ⟨g,19,none⟩ = some (.pointer (some ⟨b2,0,none⟩))) (first | go_keep | (constructor <;> assumption)) (first | (go_at_call 58; refine (HIH.out _ (by first | exact HI1.out | exact HV0.out.next _ _ _ HI1.out (Below.refl _ _).drew)).mono ?_; rintro e W3 ⟨rfl,hI3⟩; have HI3:=Lib.hid hI3; clear hI3; have F3:=KnotAt.of (Trie.sumsT_length _) Hps.out (HBK.out.below (HV0.out.low _ _ HI3.out) HBK.out.lt); have d1:=F3.node.c1; have kr3:=F3.kids; clear F3; replace d1 : W3.cell? ⟨g,1,none⟩ = some (.string ⟨p.toArray⟩):=d1; have d19 : W3.cell? ⟨g,19,none⟩ = some (.pointer (some ⟨b2,0,none⟩)):=(by rw [← HY.out]; exact kr3 0 _ (by have:=Hps.out; rw [List.getD_eq_getElem?_getD,List.getElem?_eq_getElem (show 0 < ps.length by omega)]; rfl)); clear kr3))
   go_wp2
   go_end0
   exact HP.out _ HI3.out
 | branch v kids ih =>
  intro pl x D W hN hI ha hk
  cases hm : may pl with
  | false =>
   rw [show Trie.goT may (.branch v kids) pl = [] by simp [Trie.goT,hm],List.append_nil]
   exact stop _ pl x D W (by rw [List.length_append] at hN; omega) hI ha hk (by simp) hm
  | true =>
   have HIH : ∀ (i : Fin 16) (x : Value) (W : World) (D : List (List UInt8 × Trie.T)),(D ++ Trie.goT may (Trie.kidsT (.branch v kids) i) (pl ++ [Trie.hb i])).length ≤ N → I D W → KnotP w0 (Trie.kidsT (.branch v kids) i) x → Calls Tryz.prog 58 #[x,.string ⟨(pl ++ [Trie.hb i]).toArray⟩,.func (.func f) #[] caps] W (WalkEnd I (D ++ Trie.goT may (Trie.kidsT (.branch v kids) i) (pl ++ [Trie.hb i]))) :=
    fun i x W D hN hI hk=>ih i (pl ++ [Trie.hb i]) x D W hN hI (ha.kid i) hk
   have HP : Hid (∀ w',I (D ++ [(pl,Trie.T.branch v kids)] ++ Trie.goKids may (Trie.kidsT (Trie.T.branch v kids)) pl 16) w' → WalkEnd I (D ++ Trie.goT may (Trie.T.branch v kids) pl) (.returned (.tuple #[])) w'):=Lib.hid (fun w' h=>⟨rfl,by rw [Trie.goKids_all,List.append_assoc] at h; simpa [Trie.goT,hm,Trie.kidsT,Trie.noKids,flat_nil] using h⟩)
   have HBd : Hid ((D ++ [(pl,Trie.T.branch v kids)] ++ Trie.goKids may (Trie.kidsT (Trie.T.branch v kids)) pl 16).length ≤ N):=Lib.hid (by
    have : D ++ [(pl,Trie.T.branch v kids)] ++ Trie.goKids may (Trie.kidsT (Trie.T.branch v kids)) pl 16 = D ++ Trie.goT may (Trie.T.branch v kids) pl:=by
     rw [Trie.goKids_all,List.append_assoc]; simp [Trie.goT,hm,Trie.kidsT,Trie.noKids,flat_nil]
    rw [this]; exact hN)
   have HC:=HV0.out.calls D pl _ _ W (by rw [List.length_append] at hN; omega) hI (by simp) ha hk
   have hpl:=ha.len (by simp)
   rw [hm,if_pos rfl] at HC
   obtain ⟨g,ps,rfl,hps,hbk,hks⟩:=blk_of_knot hk (by simp)
   have HC:=Lib.hid HC
   have HLoop:=Lib.hid (walk_loop N w0 f caps may I HV0.out.next (Trie.kidsT (Trie.T.branch v kids)) ps hps pl (by omega) hks HIH)
   have HBK:=Lib.hid hbk
   have Hps:=Lib.hid hps
   have SZQ : (Tryz.prog.info? 118).map (·.size) = some ps.length:=by rw [hps]; exact info_ptrs
   generalize WalkEnd I (D ++ Trie.goT may (Trie.T.branch v kids) pl) = P at HP ⊢
   clear hI ha hk hm hbk hps hks HIH hN
   rename_i HCold
   clear HCold
   go_enter Tryz.func58,Tryz.ntmps58
   go_upto_region 1 with (go_at_fn f; refine HC.out.mono ?_; rintro e W1 ⟨rfl,hI1⟩; have HI1:=Lib.hid hI1; clear hI1; have F1:=KnotAt.of (Trie.sumsT_length _) Hps.out (HBK.out.below (HV0.out.low _ _ HI1.out) HBK.out.lt); have c0:=F1.node.c0; have kr:=F1.kids; clear F1)
   replace c0 : W1.cell? ⟨g,0,none⟩ = some (.int .i64 3):=c0
   go_wp2_with (with_reducible refine at_load 40 ?_; refine wpList_load_mid rfl 118 _ rfl g 19 rfl _ _ kr Tryz.underlying118 rfl SZQ ?_)
   refine HLoop.out _ W1 HBd.out HI1.out _ ?_ _ _ _ _ _ _ _ _ _ _ _ _ _ _ _ _ _ _ _ _ _ _ _ _ _ _ _ _ _ _ _ _ _ _ _ _ _ _ _ _ _ _ _ _ _ _ _ _ _ _ _
   clear kr c0
   intro s0 s1 s3 s4 s5 s6 s7 s8 s9 s10 s11 s12 s13 s14 s15 s16 s17 s18 s19 s20 s21 s22 s23 s24 s25 s26 s27 s28 s29 s30 s31 s32 s33 s34 s35 s36 s37 s38 s39 s40 s41 s42 s43 s44 s45 s46 s47 s48 s49 s50 s51 s52 s53 s54 W2 hI2
   have HI2:=Lib.hid hI2
   clear hI2
   go_wp2
   go_end0
   exact HP.out _ HI2.out
namespace Trie
def itemD (x : List UInt8 × T) : List (List UInt8 × List UInt8):=if valT x.2 = [] then [] else [(Nib.joined (x.1 ++ pathT x.2),valT x.2)]
def itemsD (D : List (List UInt8 × T)) : List (List UInt8 × List UInt8):=D.flatMap itemD
theorem itemsD_snoc (D : List (List UInt8 × T)) (x : List UInt8 × T) : itemsD (D ++ [x]) = itemsD D ++ itemD x:=by simp [itemsD]
theorem itemsD_len (D : List (List UInt8 × T)) : (itemsD D).length ≤ D.length:=by
 induction D with
 | nil=>simp [itemsD]
 | cons x D ih =>
  have : (itemD x).length ≤ 1:=by unfold itemD; split <;> simp
  have e : itemsD (x :: D) = itemD x ++ itemsD D:=by simp [itemsD]
  rw [e,List.length_append,List.length_cons]; omega
theorem At.item {pl : List UInt8} {t : T} (h : At pl t) (hv : valT t ≠ []) : Nib.fit (pl ++ pathT t) = true ∧ (pl ++ pathT t).length ≤ 16 ∧ (pl ++ pathT t).length % 2 = 0:=by
 cases t with
 | nil=>simp [valT] at hv
 | leaf p v =>
  have:=h.all p h.wf.1 (by simp [look]; exact hv)
  exact ⟨fit_append.2 ⟨h.fit,h.wf.1⟩,this.1,this.2.1⟩
 | ext p t=>simp [valT] at hv
 | branch v kids =>
  have:=h.all [] rfl (by simpa [look,valT] using hv)
  exact ⟨fit_append.2 ⟨h.fit,rfl⟩,this.1,this.2.1⟩
end Trie
def icells (l : List (List UInt8 × List UInt8)) : List Value:=l.flatMap fun x => [.string ⟨x.1.toArray⟩,.string ⟨x.2.toArray⟩]
theorem icells_snoc (l : List (List UInt8 × List UInt8)) (x : List UInt8 × List UInt8) : icells (l ++ [x]) = icells l ++ [.string ⟨x.1.toArray⟩,.string ⟨x.2.toArray⟩]:=by simp [icells]
theorem info_item : (Tryz.prog.info? 77).map (fun i=>(i.zero,i.size,i.bytes)) = some (some (.agg #[.string ⟨#[]⟩,.string ⟨#[]⟩]),2,32):=by kernel_rfl
def ItemsI (w0 : World) (bo : Nat) (D : List (List UInt8 × Trie.T)) (W : World) : Prop :=
 ∃ A n c,Blk W bo 24 #[.slice A n c] ∧ n = (Trie.itemsD D).length ∧ W.ownsRow w0.heap.size 77 2 (.slice A n c) n (icells (Trie.itemsD D)) ∧ Below w0.heap.size w0 W ∧ w0.heap.size ≤ bo
theorem ItemsI.next {w0 : World} {bo : Nat} {D : List (List UInt8 × Trie.T)} {W W' : World} (h : ItemsI w0 bo D W) (hb : Below W.heap.size W W') : ItemsI w0 bo D W':=by
 obtain ⟨A,n,c,h1,h2,h3,h4,h5⟩:=h
 exact ⟨A,n,c,h1.below hb h1.lt,h2,own_below h3 hb,h4.nxt hb,h5⟩
theorem ItemsI.grow {w0 : World} {bo : Nat} {D D' : List (List UInt8 × Trie.T)} {W1 w2 : World} {A A2 : Option Addr} {n c c2 : Nat} {x : List UInt8 × List UInt8} (h1 : Blk W1 bo 24 #[.slice A n c]) (h2 : n = (Trie.itemsD D).length) (h3 : W1.ownsRow w0.heap.size 77 2 (.slice A n c) n (icells (Trie.itemsD D))) (h5 : w0.heap.size ≤ bo)
  (hown : w2.ownsRow w0.heap.size 77 2 (.slice A2 (n + 1) c2) (n + 1) (icells (Trie.itemsD D) ++ [.string ⟨x.1.toArray⟩,.string ⟨x.2.toArray⟩])) (hb : Below w0.heap.size w0 w2) (hg : W1.grownBy w2 (Value.slice A n c).ownBlock) (hD : Trie.itemsD D' = Trie.itemsD D ++ [x]) :
  ItemsI w0 bo D' (w2.setCell ⟨bo,0,none⟩ (.slice A2 (n + 1) c2)):=by
 have hbk:=h1.grown hg (fun e=>own_blk_ne h3 h1 (by decide) e.symm)
 refine ⟨A2,n + 1,c2,hbk.set_ 0 _,by rw [hD,List.length_append,← h2]; rfl, ?_,hb.setCell h5 _,h5⟩
 rw [hD,icells_snoc]
 exact hown.kept (only_setCell (World.grownBy.refl w2 (some bo)) (.inl rfl) _) (by
  have:=own_blk_ne hown hbk (by decide)
  cases hv : (Value.slice A2 (n + 1) c2).ownBlock with
  | none=>exact .inl rfl
  | some k=>exact .inr (by rw [← hv]; exact this))
set_option maxRecDepth 100000 in
set_option maxHeartbeats 2000000 in
theorem items_visit (w0 : World) (bo : Nat) (D : List (List UInt8 × Trie.T)) (hD : D.length ≤ 100000) (pl : List UInt8) (t : Trie.T) (x : Value) (W : World) (hI : ItemsI w0 bo D W) (hn : t ≠ .nil) (ha : Trie.At pl t) (hk : KnotP w0 t x) :
  Calls Tryz.prog 59 #[.string ⟨pl.toArray⟩,x,.pointer (some ⟨bo,0,none⟩)] W fun e W'=>e = .returned (.bool true) ∧ ItemsI w0 bo (D ++ [(pl,t)]) W':=by
 have HP : Hid (∀ W',ItemsI w0 bo (D ++ [(pl,t)]) W' → (fun e W'=>e = Ending.returned (.bool true) ∧ ItemsI w0 bo (D ++ [(pl,t)]) W') (Ending.returned (.bool true)) W'):=Lib.hid (fun W' h=>⟨rfl,h⟩)
 generalize (fun e W'=>e = Ending.returned (.bool true) ∧ ItemsI w0 bo (D ++ [(pl,t)]) W') = P at HP ⊢
 obtain ⟨g,ps,rfl,hps,hbk,hks⟩:=blk_of_knot hk hn
 have HI:=Lib.hid hI
 have hlow : Below w0.heap.size w0 W:=by obtain ⟨_,_,_,_,_,_,h,_⟩:=hI; exact h
 have HBK:=Lib.hid (hbk.below hlow hbk.lt)
 have Hps:=Lib.hid hps
 have K0:=KnotAt.of (Trie.sumsT_length _) hps HBK.out
 have c2:=K0.node.c2
 have c1:=K0.node.c1
 clear K0
 have HLow:=Lib.hid (And.intro hlow hbk.lt)
 clear hI hlow hbk hks hk hps
 by_cases hv : Trie.valT t = []
 ·have HE : Hid (ItemsI w0 bo (D ++ [(pl,t)]) W):=Lib.hid (by
   have h:=HI.out
   unfold ItemsI at h ⊢
   rwa [Trie.itemsD_snoc,show Trie.itemD (pl,t) = [] by simp [Trie.itemD,hv],List.append_nil])
  rw [hv] at c2
  clear hv c1 ha
  go_enter Tryz.func59,Tryz.ntmps59
  go_wp2
  exact HP.out _ HE.out
 ·obtain ⟨a1,a2,a3⟩:=ha.item hv
  have ne1 : ((Trie.valT t).toArray = #[]) = False:=by simp [hv]
  have ne2 : (Trie.valT t).isEmpty = false:=by simp [hv]
  have hp16 : pl.length + (Trie.pathT t).length ≤ 16:=by rw [List.length_append] at a2; exact a2
  have hsum : pl.length + (Trie.pathT t).length ≤ 9223372036854775807:=by omega
  have HK : Hid (∀ W,Calls Tryz.prog 60 #[.string ⟨(pl ++ Trie.pathT t).toArray⟩] W fun e w'=>e = .returned (.tuple #[.string ⟨(Nib.joined (pl ++ Trie.pathT t)).toArray⟩,.int .i64 0]) ∧ Below W.heap.size W w'):=Lib.hid (fun W=>by
   have:=nib_Key (pl ++ Trie.pathT t) W (by omega)
   rwa [show Nib.key (pl ++ Trie.pathT t) = (Nib.joined (pl ++ Trie.pathT t),0) by simp only [Nib.key,a1,if_true]; rw [if_neg (by omega)]] at this)
  have HID : Hid (Trie.itemsD (D ++ [(pl,t)]) = Trie.itemsD D ++ [(Nib.joined (pl ++ Trie.pathT t),Trie.valT t)]):=Lib.hid (by rw [Trie.itemsD_snoc]; simp [Trie.itemD,hv])
  have HLn:=Lib.hid (Trie.itemsD_len D)
  clear hv a1 a2 a3 ha hn
  generalize hkey : Nib.joined (pl ++ Trie.pathT t) = key at *
  clear hkey
  go_enter Tryz.func59,Tryz.ntmps59
  go_upto_region 3 with (go_at_call 60; refine (HK.out _).mono ?_; rintro e W1 ⟨rfl,hb⟩)
  have HI1:=Lib.hid (HI.out.next hb)
  have c2' : W1.cell? ⟨g,2,none⟩ = some (.string ⟨(Trie.valT t).toArray⟩):=(hb.cell (p:=⟨g,2,none⟩) HBK.out.lt).trans c2
  clear hb c1 c2 HI HBK HK
  obtain ⟨A,n,c,h1,h2,h3,h4,h5⟩:=HI1.out
  have co : W1.cell? ⟨bo,0,none⟩ = some (.slice A n c):=h1.cell 0
  have fo:=h1.frozen 0
  have HH:=Lib.hid (And.intro h1 (And.intro h2 (And.intro h3 (And.intro h4 h5))))
  have hn1 : n ≤ 100000:=by rw [h2]; have:=HLn.out; omega
  clear h1 h2 h3 h4 h5
  have hal1 : ∀ o : Obj,(W1.alloc o).cell? ⟨bo,0,none⟩ = some (.slice A n c):=fun o=>(((Below.refl _ W1).alloc (Nat.le_refl _) o).cell (p:=⟨bo,0,none⟩) HH.out.1.lt).trans co
  have hal2 : ∀ o : Obj,(W1.alloc o).cell? ⟨g,2,none⟩ = some (.string ⟨(Trie.valT t).toArray⟩):=fun o=>(((Below.refl _ W1).alloc (Nat.le_refl _) o).cell (p:=⟨g,2,none⟩) (World.block_lt_of_cell? _ _ c2')).trans c2'
  go_cut [34] (fun s34 wx=>ItemsI w0 bo (D ++ [(pl,t)]) wx)
  case first =>
   go_region_law (refine step_append_new W1 77 [.string ⟨key.toArray⟩,.string ⟨(Trie.valT t).toArray⟩] rfl _ _ 24 rfl w0.heap.size 2 32 _ info_item Tryz.underlying24 rfl (by decide) (.slice A n c) n _ rfl HH.out.2.2.1 1 1 rfl rfl (by simp [Value.oneCell']) (by simp only [maxLen]; omega) (by omega) w0.heap.size w0 HH.out.2.2.2.1 (Nat.le_refl _) HH.out.2.2.2.1.size ?_; intro v2 w2 hown2 hb2 hgr2 ho2 hlt2; obtain ⟨A2,cc2,rfl,_,_,_⟩:=own_form hown2; have hbk2:=HH.out.1.grown hgr2 (fun e=>own_blk_ne HH.out.2.2.1 HH.out.1 (by decide) e.symm); have co2:=hbk2.cell 0; have fo2:=hbk2.frozen 0; have O2:=Lib.hid (And.intro hown2 (And.intro hb2 hgr2)); clear hown2 hb2 hgr2 hbk2)
   all_goals go_wp2
   all_goals go_meet
   all_goals first | exact ItemsI.grow HH.out.1 HH.out.2.1 HH.out.2.2.1 HH.out.2.2.2.2 O2.out.1 O2.out.2.1 O2.out.2.2 HID.out | exact (ItemsI.grow HH.out.1 HH.out.2.1 HH.out.2.2.1 HH.out.2.2.2.2 O2.out.1 O2.out.2.1 O2.out.2.2 HID.out).next (Below.refl _ _).drew
  case rest =>
   have HC:=Lib.hid hcut
   clear hcut
   go_wp2
   exact HP.out _ HC.out
namespace Trie
theorem sum_le_sum {α : Type} (f g : α → Nat) : ∀ l : List α,(∀ x ∈ l,f x ≤ g x) → (l.map f).sum ≤ (l.map g).sum
 | [],_=>Nat.le_refl _
 | a :: l,h=>by
  have h1:=h a (by simp)
  have h2:=sum_le_sum f g l (fun x hx=>h x (by simp [hx]))
  simp only [List.map_cons,List.sum_cons]; omega
theorem sum_add {α : Type} (f g : α → Nat) (l : List α) : (l.map fun x=>f x + g x).sum = (l.map f).sum + (l.map g).sum:=by
 induction l with
 | nil=>rfl
 | cons a l ih=>simp only [List.map_cons,List.sum_cons,ih]; omega
theorem sum_mul {α : Type} (f : α → Nat) (n : Nat) (l : List α) : (l.map fun x=>n * f x).sum = n * (l.map f).sum:=by
 induction l with
 | nil=>rfl
 | cons a l ih=>simp only [List.map_cons,List.sum_cons,ih,Nat.mul_add]
theorem filter_sum {α : Type} (p : α → Bool) (l : List α) : (l.filter p).length = (l.map fun x=>if p x then 1 else 0).sum:=by
 induction l with
 | nil=>rfl
 | cons a l ih =>
  simp only [List.filter_cons,List.map_cons,List.sum_cons,← ih]
  split <;> simp_all <;> omega
theorem nodes_le (t : T) : wf t → t ≠ .nil → nodes t + 2 ≤ 4 * count t ∧ (isBranch t = true → nodes t + 3 ≤ 4 * count t):=by
 induction t with
 | nil=>intro _ h; exact absurd rfl h
 | leaf p v=>intro _ _; simp [nodes,count,isBranch]
 | ext p t ih =>
  intro h _
  have hn : t ≠ .nil:=fun e=>by have:=h.2.2.1; rw [e] at this; simp [isBranch] at this
  have:=(ih h.2.2.2 hn).2 h.2.2.1
  simp only [nodes,count]
  exact ⟨by omega,fun h=>by simp [isBranch] at h⟩
 | branch v kids ih =>
  intro h _
  have h1:=sum_le_sum (fun i=>nodes (kids i) + 2 * (if !isNil (kids i) then 1 else 0)) (fun i=>4 * count (kids i)) (List.finRange 16) (fun i _=>by
   by_cases hn : kids i = .nil
   ·simp [hn,nodes,isNil]
   ·have:=(ih i (h.1 i) hn).1
    have e : isNil (kids i) = false:=by cases hk : kids i <;> simp_all [isNil]
    simp [e]; omega)
  rw [sum_add,sum_mul,sum_mul,← filter_sum] at h1
  have h2:=h.2
  have h3 : ((List.finRange 16).filter fun i => !isNil (kids i)).length = many kids:=rfl
  have h4 : ((List.finRange 16).map fun i=>count (kids i)).sum = kidsCount kids:=rfl
  rw [h3,h4] at h1
  rw [count_branch]
  simp only [nodes]
  split at h2 <;> rename_i hv <;> simp only [hv,if_true,if_false] <;> omega
theorem goT_len (may : List UInt8 → Bool) (t : T) : ∀ pl,(goT may t pl).length ≤ nodes t:=by
 induction t with
 | nil=>intro pl; simp [goT]
 | leaf p v=>intro pl; simp only [goT,nodes]; split <;> simp
 | ext p t ih=>intro pl; simp only [goT,nodes]; split <;> simp; have:=ih (pl ++ p); omega
 | branch v kids ih =>
  intro pl
  simp only [goT,nodes]
  split
  ·simp only [List.length_cons,List.length_flatMap]
   have:=sum_le_sum (fun i=>(goT may (kids i) (pl ++ [hb i])).length) (fun i=>nodes (kids i)) (List.finRange 16) (fun i _=>ih i _)
   omega
  ·simp
theorem goT_short {t : T} (hw : wf t) (hc : count t ≤ 20000) (may : List UInt8 → Bool) (pl : List UInt8) : (goT may t pl).length ≤ 100000:=by
 have h1:=goT_len may t pl
 by_cases hn : t = .nil
 ·subst hn; simp [goT]
 ·have:=(nodes_le t hw hn).1; omega
def itemsW (t : T) : List (List UInt8 × List UInt8):=(items t []).map fun x=>(Nib.joined x.1,x.2)
theorem itemsD_all (t : T) : ∀ pl,wf t → itemsD (goT (fun _=>true) t pl) = (items t pl).map fun x=>(Nib.joined x.1,x.2):=by
 induction t with
 | nil=>intro pl _; rfl
 | leaf p v=>intro pl h; simp [goT,itemsD,itemD,items,valT,pathT,h.2]
 | ext p t ih =>
  intro pl h
  have:=ih (pl ++ p) h.2.2.2
  simp only [goT,if_true,items]
  rw [← this]
  simp [itemsD,itemD,valT]
 | branch v kids ih =>
  intro pl h
  simp only [goT,if_true,items,List.map_append,List.map_flatMap]
  have e : ∀ l : List (Fin 16),itemsD (l.flatMap fun i=>goT (fun _=>true) (kids i) (pl ++ [hb i])) = l.flatMap fun i=>(items (kids i) (pl ++ [hb i])).map fun x=>(Nib.joined x.1,x.2):=by
   intro l
   induction l with
   | nil=>rfl
   | cons a l ihl =>
    simp only [List.flatMap_cons]
    rw [← ih a _ (h.1 a),← ihl]
    simp [itemsD]
  rw [← e]
  rw [show ∀ D,itemsD ((pl,T.branch v kids) :: D) = itemD (pl,T.branch v kids) ++ itemsD D from fun D=>by simp [itemsD]]
  congr 1
  simp only [itemD,valT,pathT,List.append_nil]
  split <;> simp
end Trie
def ItemsEnd (w : World) (l : List (List UInt8 × List UInt8)) (e : Ending) (w' : World) : Prop :=
 ∃ A n c,e = .returned (.slice A n c) ∧ n = l.length ∧ w'.ownsRow w.heap.size 77 2 (.slice A n c) n (icells l) ∧ Below w.heap.size w w'
theorem items_Visit (w0 : World) (bo : Nat) : Visit 100000 w0 59 #[.pointer (some ⟨bo,0,none⟩)] (fun _=>true) (ItemsI w0 bo) where
 enters:=enters_of (fn:=Tryz.f59) (by kernel_rfl) (by kernel_rfl) rfl
 low:=fun D W h=>by obtain ⟨_,_,_,_,_,_,h,_⟩:=h; exact h
 next:=fun D W W' h hb=>h.next hb
 calls:=fun D pl t x W hD hI hn ha hk=>items_visit w0 bo D hD pl t x W hI hn ha hk
set_option maxHeartbeats 1000000 in
theorem trie_Items (w : World) (t : Trie.T) (v : Value) (h : TrieP w t v) (hc : Trie.count t ≤ 20000) : Calls Tryz.prog 19 #[v] w (ItemsEnd w (Trie.itemsW t)):=by
 obtain ⟨hg,b,x,rfl,hbk,hk⟩:=h
 have HP : Hid (∀ A n c w',n = (Trie.itemsW t).length → w'.ownsRow w.heap.size 77 2 (.slice A n c) n (icells (Trie.itemsW t)) → Below w.heap.size w w' → ItemsEnd w (Trie.itemsW t) (.returned (.slice A n c)) w'):=Lib.hid (fun A n c w' h1 h2 h3=>⟨A,n,c,rfl,h1,h2,h3⟩)
 have c0 : w.cell? ⟨b,0,none⟩ = some x:=hbk.cell 0
 have HLt:=Lib.hid hbk.lt
 have HW : Hid (∀ W,ItemsI w w.heap.size [] W → Calls Tryz.prog 58 #[x,.string ⟨#[]⟩,.func (.func 59) #[] #[.pointer (some ⟨w.heap.size,0,none⟩)]] W (WalkEnd (ItemsI w w.heap.size) (Trie.goT (fun _=>true) t []))) :=
  Lib.hid (fun W hW=>trie_walk 100000 w _ _ _ _ (items_Visit w w.heap.size) t [] x [] W (by simpa using Trie.goT_short hg.wf hc _ []) hW (Trie.At.top hg) hk)
 have HD : Hid (Trie.itemsD (Trie.goT (fun _=>true) t []) = Trie.itemsW t):=Lib.hid (Trie.itemsD_all t [] hg.wf)
 generalize ItemsEnd w (Trie.itemsW t) = P at HP ⊢
 have hx : x = .pointer none ∨ ∃ b2,x = .pointer (some ⟨b2,0,none⟩):=by
  rcases hk.form with ⟨_,h⟩ | ⟨b2,_,_,h,_⟩
  ·exact .inl h
  ·exact .inr ⟨b2,h⟩
 clear hk hbk hg hc
 have HI0 : Hid (ItemsI w w.heap.size [] (w.alloc (.cells #[.slice none 0 0] 24))):=Lib.hid ⟨none,0,0,Blk.new _ _ _,rfl,World.ownsRow_nil _ _ _ _,by go_grown,Nat.le_refl _⟩
 have hal : ∀ o : Obj,(w.alloc o).cell? ⟨b,0,none⟩ = some x:=fun o=>(((Below.refl _ w).alloc (Nat.le_refl _) o).cell (p:=⟨b,0,none⟩) HLt.out).trans c0
 rcases hx with rfl | ⟨b2,rfl⟩
 all_goals
  go_enter Tryz.func19,Tryz.ntmps19
  go_wp2_with (go_at_call 58; refine (HW.out _ HI0.out).mono ?_; rintro e w1 ⟨rfl,hI⟩; obtain ⟨A,n,c,h1,h2,h3,h4,h5⟩:=hI; have co:=h1.cell 0; have HH:=Lib.hid (And.intro h1 (And.intro h2 (And.intro h3 h4))); clear h1 h2 h3 h4 h5)
  refine HP.out _ _ _ _ (by rw [← HD.out]; exact HH.out.2.1) (by rw [← HD.out]; exact HH.out.2.2.1) HH.out.2.2.2
namespace Trie
end Trie
theorem icells_at {l : List (List UInt8 × List UInt8)} {i : Nat} (h : i < l.length) : (icells l)[2 * i]? = some (.string ⟨l[i].1.toArray⟩) ∧ (icells l)[2 * i + 1]? = some (.string ⟨l[i].2.toArray⟩):=by
 induction l generalizing i with
 | nil=>simp at h
 | cons a l ih =>
  rcases i with _ | i
  ·simp [icells]
  ·have:=ih (show i < l.length by simpa using h)
   rw [show 2 * (i + 1) = 2 * i + 1 + 1 by omega]
   simpa [icells] using this
theorem icells_length (l : List (List UInt8 × List UInt8)) : (icells l).length = 2 * l.length:=by
 induction l with
 | nil=>rfl
 | cons a l ih =>
  rw [show icells (a :: l) = .string ⟨a.1.toArray⟩ :: .string ⟨a.2.toArray⟩ :: icells l from rfl,List.length_cons,List.length_cons,ih,List.length_cons]; omega
end Go.Proofs.YtomnlhbioijfhaaGreatDoor
namespace Go.Proofs.YtomnlhbioijfhaaGreatDoor
open Go.RowKit Go.Instr
theorem take_eq_succ' {α : Type} {xs ys : List α} {i : Nat} (h1 : i < xs.length) (h2 : i < ys.length) (h : xs.take i = ys.take i) : (xs.take (i + 1) = ys.take (i + 1)) ↔ xs[i] = ys[i]:=by
 rw [List.take_succ_eq_append_getElem h1,List.take_succ_eq_append_getElem h2,h]
 exact ⟨fun e=>by simpa using List.append_cancel_left e,fun e=>by rw [e]⟩
theorem it_run (w : World) (a b : List UInt8 × List UInt8) : (Op.equalIn 10000 77 (.agg #[.string ⟨a.1.toArray⟩,.string ⟨a.2.toArray⟩]) (.agg #[.string ⟨b.1.toArray⟩,.string ⟨b.2.toArray⟩])).run Tryz.prog w = .ok (a == b) w:=by
 obtain ⟨a1,a2⟩:=a
 obtain ⟨b1,b2⟩:=b
 have u9:=Tryz.underlying9
 have a9:=Tryz.isAgg9
 have z9:=Tryz.sizeOf9
 have hS : Tryz.prog.underlying 77 = some (.struct (Tryz.prog.fieldsOf 77)):=by kernel_rfl
 have hp : Tryz.prog.stoodInHeld 77 = false:=by kernel_rfl
 rw [show (10000 : Nat) = 9999 + 1 from rfl,run_equalIn_agg w 9999 77 _ _ hS hp]
 simp only [Program.fieldsOf,Tryz.underlying77]
 go_simp
 by_cases h1 : a1 = b1 <;> by_cases h2 : a2 = b2 <;> simp [h1,h2]
 all_goals (intro h; exact absurd h (by assumption))
set_option maxHeartbeats 400000 in
theorem book_SameItems (A B : Option Addr) (n m c d : Nat) (xs ys : List (List UInt8 × List UInt8)) (w : World) (ha : Reads w w.heap.size 2 A n (icells xs)) (hb : Reads w w.heap.size 2 B m (icells ys)) (hn : n ≤ 1048576) (hm : m ≤ 1048576) :
    Calls Tryz.prog 11 #[.slice A n c, .slice B m d] w fun e w' => e = .returned (.bool (decide (xs = ys))) ∧ Below w.heap.size w w' := by
  have hxl : xs.length = n := by have := ha.1; rw [icells_length] at this; omega
  have hyl : ys.length = m := by have := hb.1; rw [icells_length] at this; omega
  by_cases hnm : n = m
  · subst hnm
    have hq : ((n : Int) == (n : Int)) = true := by simp
    go_enter Tryz.func11, Tryz.ntmps11
    go_wp2
    refine wp_loop_ghost_k (fun k a wr => ∀ Φ : Act → Prop, (∀ (s2 s3 s4 s7 s8 s9 s10 s11 s12 s13 s14 s15 s16 s17 s18 s19 s20 s21 s22 s23 s24 s25 s26 s27 s28 s29 s30 : Value) (i : Nat) (q : Bool), (i + k = n ∧ (q = true ↔ xs.take i = ys.take i) ∧ (q = false → xs ≠ ys) ∧ Below w.heap.size w wr) → Φ { tmps := #[.slice A n c, .slice B n d, s2, s3, s4, .bool q, .int .i64 i, s7, s8, s9, s10, s11, s12, s13, s14, s15, s16, s17, s18, s19, s20, s21, s22, s23, s24, s25, s26, s27, s28, s29, s30], defers := [] }) → Φ a) (n) ?_ ?_
    · refine fun Φ hΦ => hΦ _ _ _ _ _ _ _ _ _ _ _ _ _ _ _ _ _ _ _ _ _ _ _ _ _ _ _ (0) (true) ?_
      exact ⟨by omega, by simp, by simp, Below.refl _ _⟩
    · intro k1 a1 wr1 hI1 J1 K1 hJ1 hK1
      refine hI1 (fun a => Code.wp _ _ _ a _) ?_
      clear hI1 a1
      intro s0 s1 s2 s3 s4 s5 s6 s7 s8 s9 s10 s11 s12 s13 s14 s15 s16 s17 s18 s19 s20 s21 s22 s23 s24 s25 s26 i q hrel
      show Code.wp _ _ _ _ _
      obtain ⟨h1, h2, h3, hw⟩ := hrel
      cases q with
      | false =>
        have h3' : xs ≠ ys := by simpa using h3
        have H3 := Lib.hid h3'
        clear h3'
        clear h2 h3
        go_wp2
        go_ret
        exact ⟨ret_bool (by simpa using H3.out), hw⟩
      | true =>
        have H2 := Lib.hid h2
        clear h2 h3
        by_cases hi : i < n
        · obtain ⟨b1, o1, rfl, hl1, hc1⟩ := ha.form (by omega) (by omega)
          obtain ⟨b2, o2, rfl, hl2, hc2⟩ := hb.form (by omega) (by omega)
          have g1 : wr1.cell? ⟨b1, o1 + i * 2, none⟩ = some (.string ⟨(xs[i]'(by omega)).1.toArray⟩) := by
            have q := hc1 (2 * i) (by rw [icells_length]; omega)
            have r := (icells_at (l := xs) (i := i) (by omega)).1
            rw [List.getElem?_eq_getElem (by rw [icells_length]; omega)] at r
            rw [Option.some.inj r] at q
            rw [show o1 + i * 2 = o1 + (2 * i) by omega]
            exact (hw.cell (p := ⟨b1, o1 + (2 * i), none⟩) hl1).trans q
          have g1b : wr1.cell? ⟨b1, o1 + i * 2 + 1, none⟩ = some (.string ⟨(xs[i]'(by omega)).2.toArray⟩) := by
            have q := hc1 (2 * i + 1) (by rw [icells_length]; omega)
            have r := (icells_at (l := xs) (i := i) (by omega)).2
            rw [List.getElem?_eq_getElem (by rw [icells_length]; omega)] at r
            rw [Option.some.inj r] at q
            rw [show o1 + i * 2 + 1 = o1 + (2 * i + 1) by omega]
            exact (hw.cell (p := ⟨b1, o1 + (2 * i + 1), none⟩) hl1).trans q
          have g2 : wr1.cell? ⟨b2, o2 + i * 2, none⟩ = some (.string ⟨(ys[i]'(by omega)).1.toArray⟩) := by
            have q := hc2 (2 * i) (by rw [icells_length]; omega)
            have r := (icells_at (l := ys) (i := i) (by omega)).1
            rw [List.getElem?_eq_getElem (by rw [icells_length]; omega)] at r
            rw [Option.some.inj r] at q
            rw [show o2 + i * 2 = o2 + (2 * i) by omega]
            exact (hw.cell (p := ⟨b2, o2 + (2 * i), none⟩) hl2).trans q
          have g2b : wr1.cell? ⟨b2, o2 + i * 2 + 1, none⟩ = some (.string ⟨(ys[i]'(by omega)).2.toArray⟩) := by
            have q := hc2 (2 * i + 1) (by rw [icells_length]; omega)
            have r := (icells_at (l := ys) (i := i) (by omega)).2
            rw [List.getElem?_eq_getElem (by rw [icells_length]; omega)] at r
            rw [Option.some.inj r] at q
            rw [show o2 + i * 2 + 1 = o2 + (2 * i + 1) by omega]
            exact (hw.cell (p := ⟨b2, o2 + (2 * i + 1), none⟩) hl2).trans q
          have EQ := fun w => it_run w (xs[i]'(by omega)) (ys[i]'(by omega))
          clear hc1 hc2
          go_wp2
          go_region
          go_wp2
          refine Handed.intro (n - (i + 1)) ?_ (hJ1 _ _ _ (fun Φ hΦ => hΦ _ _ _ _ _ _ _ _ _ _ _ _ _ _ _ _ _ _ _ _ _ _ _ _ _ _ _ (i + 1) (xs[i] == ys[i]) ?_))
          · omega
          · have hx := take_eq_succ' (xs := xs) (ys := ys) (i := i) (by omega) (by omega) (by simpa using H2.out)
            refine ⟨by omega, ?_, ?_, below_drewN hw _⟩
            · rw [hx]; simp
            · intro hq e
              subst e
              simp at hq
        · have e : i = n := by omega
          subst e
          go_wp2
          go_ret
          exact ⟨ret_bool (by have h2 : xs.take i = ys.take i := by simpa using H2.out
                              rw [List.take_of_length_le (by omega), List.take_of_length_le (by omega)] at h2
                              simpa using h2), hw⟩
  · have hq : ((n : Int) == (m : Int)) = false := by rw [beq_eq_false_iff_ne]; omega
    go_enter Tryz.func11, Tryz.ntmps11
    go_wp2
    refine wp_loop_rounds 1 ?_
    rw [rounds_succ]
    go_wp2
    go_ret
    exact ⟨ret_bool (by symm; rw [decide_eq_false_iff_not]; intro e; subst e; omega), Below.refl _ _⟩
end Go.Proofs.YtomnlhbioijfhaaGreatDoor
