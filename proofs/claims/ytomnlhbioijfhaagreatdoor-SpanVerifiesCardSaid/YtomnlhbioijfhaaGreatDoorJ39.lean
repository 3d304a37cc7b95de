import Derived.Test.YtomnlhbioijfhaaGreatDoorJ34
import Derived.Test.YtomnlhbioijfhaaGreatDoorJ35
import Derived.Test.YtomnlhbioijfhaaGreatDoorJ36
import Derived.Test.YtomnlhbioijfhaaGreatDoorJ38
import Derived.Deep.DeepCutAuto
set_option linter.unusedSimpArgs false
set_option linter.unusedVariables false
namespace Go.Proofs.YtomnlhbioijfhaaGreatDoor
open Go.RowKit Go.Instr
attribute [local go_sem] ba_get ByteArray.mk_append_mk
attribute [local go_sem ↓] Go.wp_at_zero Go.wp_at_succ
namespace Trie
def restS (F : List UInt8 → List UInt8 → Gst → Bool × Gst) (K : List (List UInt8)) (at_ : Nat → List UInt8) (i : Nat) (r : Bool × Gst) : Bool × Gst:=if r.1 = true then kidsGa F K at_ (16 - i) r.2 else r
def stepS (F : List UInt8 → List UInt8 → Gst → Bool × Gst) (s p : List UInt8) (r : Bool × Gst) : Bool × Gst:=if r.1 = true then F s p r.2 else r
theorem restS_skip {F : List UInt8 → List UInt8 → Gst → Bool × Gst} {K : List (List UInt8)} {at_ : Nat → List UInt8} {i : Nat} (r : Bool × Gst) (hi : i < 16) (hs : K.getD i [] = []) : restS F K at_ i r = restS F K at_ (i + 1) r:=by
 unfold restS
 split
 ·exact kidsGa_skip r.2 hi hs
 ·rfl
theorem restS_step {F : List UInt8 → List UInt8 → Gst → Bool × Gst} {K : List (List UInt8)} {at_ : Nat → List UInt8} {i : Nat} (r : Bool × Gst) (hi : i < 16) (hs : K.getD i [] ≠ []) : restS F K at_ i r = restS F K at_ (i + 1) (stepS F (K.getD i []) (at_ i) r):=by
 unfold restS stepS
 by_cases h : r.1 = true
 ·rw [if_pos h,if_pos h,kidsGa_step r.2 hi hs]
  by_cases h2 : (F (K.getD i []) (at_ i) r.2).1 = true
  ·rw [if_pos h2,if_pos h2]
  ·rw [if_neg h2,if_neg h2]
   generalize F (K.getD i []) (at_ i) r.2 = x at *
   obtain ⟨b,st⟩:=x
   simp only [Bool.not_eq_true] at h2
   rw [h2]
 ·rw [if_neg h,if_neg h,if_neg h]
theorem restS_end {F : List UInt8 → List UInt8 → Gst → Bool × Gst} {K : List (List UInt8)} {at_ : Nat → List UInt8} (r : Bool × Gst) : restS F K at_ 16 r = r:=by
 unfold restS
 split
 ·rename_i h
  obtain ⟨b,st⟩:=r
  simp only at h
  subst h
  rfl
 ·rfl
end Trie
def PartC (ok : Nat → Prop) (W : World) (r : Bool × Trie.Gst) (cs : Array Value) : Prop :=
 (r.1 = true ∧ ∃ A c B d,cs = #[.slice A r.2.1.length c,.slice B r.2.2.length d,.bool true] ∧ Reads W W.heap.size 2 A r.2.1.length (icells r.2.1) ∧ Reads W W.heap.size 1 B r.2.2.length (strv r.2.2) ∧ r.2.2.length ≤ d ∧ (∀ a,A = some a → ok a.block) ∧ (∀ a,B = some a → ok a.block)) ∨
 (r.1 = false ∧ cs = #[.slice none 0 0,.slice none 0 0,.bool false])
theorem PartC.next {ok : Nat → Prop} {W W' : World} {r : Bool × Trie.Gst} {cs : Array Value} (h : PartC ok W r cs) (hb : Below W.heap.size W W') : PartC ok W' r cs:=by
 rcases h with ⟨h1,A,c,B,d,h2,h3,h4,h5⟩ | h
 ·exact .inl ⟨h1,A,c,B,d,h2,(h3.below hb).more hb.size,(h4.below hb).more hb.size,h5⟩
 ·exact .inr h
theorem PartC.drew {ok : Nat → Prop} {W : World} {r : Bool × Trie.Gst} {cs : Array Value} (h : PartC ok W r cs) : PartC ok W.drew r cs:=h
theorem PartC.weak {ok ok' : Nat → Prop} {W : World} {r : Bool × Trie.Gst} {cs : Array Value} (h : PartC ok W r cs) (hw : ∀ b,ok b → ok' b) : PartC ok' W r cs:=by
 rcases h with ⟨h1,A,c,B,d,h2,h3,h4,h5,h6,h7⟩ | h
 ·exact .inl ⟨h1,A,c,B,d,h2,h3,h4,h5,fun a e=>hw _ (h6 a e),fun a e=>hw _ (h7 a e)⟩
 ·exact .inr h
theorem PartC.three {ok : Nat → Prop} {W : World} {r : Bool × Trie.Gst} {cs : Array Value} (h : PartC ok W r cs) : ∃ x y z,cs = #[x,y,z] ∧ x.oneCell' = true ∧ y.oneCell' = true ∧ z.oneCell' = true:=by
 rcases h with ⟨h1,A,c,B,d,rfl,_⟩ | ⟨_,rfl⟩ <;> exact ⟨_,_,_,rfl,rfl,rfl,rfl⟩
theorem PartC.size {ok : Nat → Prop} {W : World} {r : Bool × Trie.Gst} {cs : Array Value} (h : PartC ok W r cs) : cs.size = 3:=by
 rcases h with ⟨h1,A,c,B,d,rfl,_⟩ | ⟨_,rfl⟩ <;> rfl
theorem reads_setCells {B size n g : Nat} {A : Option Addr} {xs : List Value} (hne : ∀ a,A = some a → a.block ≠ g) : ∀ (vs : List Value) (o : Nat) (W : World),Reads W B size A n xs → Reads (W.setCells g o vs) B size A n xs
 | [],_,_,h=>h
 | v :: r,o,W,h=>reads_setCells hne r (o + 1) _ (reads_apart h (fun a e=>(hne a e).symm) v)
theorem setCells_size {g : Nat} : ∀ (vs : List Value) (o : Nat) (W : World),(W.setCells g o vs).heap.size = W.heap.size
 | [],_,_=>rfl
 | v :: r,o,W=>by
  rw [World.setCells,setCells_size r]
  simp [World.setCell]
theorem PartC.stored {ok : Nat → Prop} {W : World} {r : Bool × Trie.Gst} {cs : Array Value} {g : Nat} (h : PartC (fun b=>ok b ∧ b ≠ g) W r cs) (vs : List Value) (o : Nat) : PartC (fun b=>ok b ∧ b ≠ g) (W.setCells g o vs) r cs:=by
 rcases h with ⟨h1,A,c,B,d,h2,h3,h4,h5,h6,h7⟩ | h
 ·refine .inl ⟨h1,A,c,B,d,h2, ?_, ?_,h5,h6,h7⟩
  ·rw [setCells_size]; exact reads_setCells (fun a e=>(h6 a e).2) vs o W h3
  ·rw [setCells_size]; exact reads_setCells (fun a e=>(h7 a e).2) vs o W h4
 ·exact .inr h
theorem step_store_mid {P : Program} {ops : Array Oper} {o : Oper} {a : Act} {w : World} {K : Act → World → Prop} {Q : Exit → Act → World → Prop} {E : Prop} (hgd : o.guard = none) (ty : TypeId) (x y : Operand) (ho : o.op = .store ty x y)
  (b f : Nat) (cells : Array Value) (hx : a.eval x = .pointer (some ⟨b,f,none⟩)) (hy : a.eval y = .agg cells) (ht : w.there b f cells.size) (hi : (P.info? ty).map (·.size) = some cells.size) (h1 : cells.all (·.oneCell') = true)
  (h : K (a.put o.dst undef) (w.setCells b f cells.toList)) : if Region.wanted o (yielded ops a.tmps) = true then Oper.wp P o a w K Q else E:=by
 have hw : Region.wanted o (yielded ops a.tmps) = true:=by simp [Region.wanted,hgd]
 rw [if_pos hw]
 exact wp_store_mid ty x y ho b f cells hx hy ht hi h1 h
def PartEnd (ok : Nat → Prop) (W : World) (r : Bool × Trie.Gst) (q : Ending) (W' : World) : Prop := ∃ cs,q = .returned (.agg cs) ∧ PartC ok W' r cs ∧ Below W.heap.size W W'
theorem PartC.put3 {ok : Nat → Prop} {W : World} {r : Bool × Trie.Gst} {x y z : Value} {g : Nat} (h : PartC (fun b=>ok b ∧ b ≠ g) W r #[x,y,z]) (u0 u1 u2 : Value) : PartC (fun b=>ok b ∧ b ≠ g) (((W.setCell ⟨g,0,none⟩ u0).setCell ⟨g,1,none⟩ u1).setCell ⟨g,2,none⟩ u2) r #[x,y,z] :=
 h.stored [u0,u1,u2] 0
theorem Live.put3 {w W : World} {L : List (Nat × Nat × Array Value)} {g t : Nat} {x y z : Value} (h : Live w W ((g,t,#[x,y,z]) :: L)) (u0 u1 u2 : Value) : Live w (((W.setCell ⟨g,0,none⟩ u0).setCell ⟨g,1,none⟩ u1).setCell ⟨g,2,none⟩ u2) ((g,t,#[u0,u1,u2]) :: L) :=
 ((h.set 0 0 u0 rfl).set 0 1 u1 rfl).set 0 2 u2 rfl
theorem info_part : (Tryz.prog.info? 91).map (·.size) = some 3:=by kernel_rfl
set_option maxRecDepth 100000 in
set_option maxHeartbeats 4000000 in
theorem gatherR_loop (w : World) (ok : Nat → Prop) (f e : List UInt8) (F : List UInt8 → List UInt8 → Trie.Gst → Bool × Trie.Gst) (hsz : ∀ s p st,Trie.Sz st (F s p st).2) (nb ob rb kd : Nat) (p v : List UInt8) (K : List (List UInt8)) (hK : K.length = 16) (pl : List UInt8) (hpl : pl.length ≤ 4000000) (hp : p.length ≤ 16)
  (st0 : Trie.Gst) (x0 y0 z0 : Value) (W0 : World) (L : List (Nat × Nat × Array Value)) (hL : Live w W0 ((ob,91,#[x0,y0,z0]) :: (nb,117,(nodeV kd p v K).toArray) :: L)) (hI : PartC (fun b=>ok b ∧ b ≠ ob) W0 (true,st0) #[x0,y0,z0])
  (IH : ∀ (i : Nat) (r : Bool × Trie.Gst) (cs : Array Value) (W : World),i < 16 → K.getD i [] ≠ [] → Trie.Sz st0 r.2 → Below w.heap.size w W → ob < W.heap.size → PartC (fun b=>ok b ∧ b ≠ ob) W r cs → Calls Tryz.prog 41 #[.agg cs,.string ⟨(K.getD i []).toArray⟩,.string ⟨(Trie.kidAt (kd,p,v,K) pl i).toArray⟩,.string ⟨f.toArray⟩,.string ⟨e.toArray⟩] W (PartEnd (fun b=>ok b ∧ b ≠ ob) W (Trie.stepS F (K.getD i []) (Trie.kidAt (kd,p,v,K) pl i) r)))
  (Q : Exit → Act → World → Prop)
  (hQ : ∀ (s0 s1 s2 s3 s4 s5 s6 s7 s8 s9 s11 s12 s13 s14 s15 s16 s18 s19 s20 s21 s22 s23 s24 s25 s26 s27 s28 s29 s30 s31 s32 s33 s34 s35 s36 s37 s38 s39 s40 s41 s42 s43 s44 s45 s46 s47 s48 s49 s50 s51 s52 s53 s54 s55 s56 s57 s58 s59 s60 s61 s62 s63 s64 s65 s66 s67 s68 s69 s70 s71 s72 s73 s74 s75 s76 s77 s78 s79 s80 s81 s82 s83 s84 s85 s86 s87 s88 s89 s90 s91 s92 s93 s94 s95 s96 s97 s98 s99 s100 s101 s102 s103 s104 s105 s106 s107 s108 s109 s110 s111 s112 s113 s114 s115 s116 s117 s118 s119 s120 s121 s122 s123 s124 s125 s126 s127 : Value) (x y z : Value) (W2 : World),Live w W2 ((ob,91,#[x,y,z]) :: (nb,117,(nodeV kd p v K).toArray) :: L) → PartC (fun b=>ok b ∧ b ≠ ob) W2 (Trie.kidsGa F K (Trie.kidAt (kd,p,v,K) pl) 16 st0) #[x,y,z] → Q (.exit 0) { tmps:=#[s0,s1,s2,s3,s4,s5,s6,s7,s8,s9,.pointer (some ⟨rb,0,none⟩),s11,s12,s13,s14,s15,s16,.pointer (some ⟨ob,0,none⟩),s18,s19,s20,s21,s22,s23,s24,s25,s26,s27,s28,s29,s30,s31,s32,s33,s34,s35,s36,s37,s38,s39,s40,s41,s42,s43,s44,s45,s46,s47,s48,s49,s50,s51,s52,s53,s54,s55,s56,s57,s58,s59,s60,s61,s62,s63,s64,s65,s66,s67,s68,s69,s70,s71,s72,s73,s74,s75,s76,s77,s78,s79,s80,s81,s82,s83,s84,s85,s86,s87,s88,s89,s90,s91,s92,s93,s94,s95,s96,s97,s98,s99,s100,s101,s102,s103,s104,s105,s106,s107,s108,s109,s110,s111,s112,s113,s114,s115,s116,s117,s118,s119,s120,s121,s122,s123,s124,s125,s126,s127],defers := [] } W2)
  (s0 s1 s5 s6 s7 s8 s9 s11 s13 s14 s15 s16 s19 s20 s21 s22 s23 s24 s25 s26 s27 s28 s29 s30 s31 s32 s33 s34 s35 s36 s37 s38 s39 s40 s41 s42 s43 s44 s45 s46 s47 s48 s49 s50 s51 s52 s53 s54 s55 s56 s57 s58 s59 s60 s61 s62 s63 s64 s65 s66 s67 s68 s69 s70 s71 s72 s73 s74 s75 s76 s77 s78 s79 s80 s81 s82 s83 s84 s85 s86 s87 s88 s89 s90 s91 s92 s93 s94 s95 s96 s97 s98 s99 s100 s101 s102 s103 s104 s105 s106 s107 s108 s109 s110 s111 s112 s113 s114 s115 s116 s117 s118 s119 s120 s121 s122 s123 s124 s125 s126 s127 : Value) :
  Code.wp Tryz.prog (.loop (loopAt Tryz.f41 0)) Q { tmps:=#[s0,s1,.string ⟨pl.toArray⟩,.string ⟨f.toArray⟩,.string ⟨e.toArray⟩,s5,s6,s7,s8,s9,.pointer (some ⟨rb,0,none⟩),s11,.pointer (some ⟨nb,0,none⟩),s13,s14,s15,s16,.pointer (some ⟨ob,0,none⟩),.int .i64 0,s19,s20,s21,s22,s23,s24,s25,s26,s27,s28,s29,s30,s31,s32,s33,s34,s35,s36,s37,s38,s39,s40,s41,s42,s43,s44,s45,s46,s47,s48,s49,s50,s51,s52,s53,s54,s55,s56,s57,s58,s59,s60,s61,s62,s63,s64,s65,s66,s67,s68,s69,s70,s71,s72,s73,s74,s75,s76,s77,s78,s79,s80,s81,s82,s83,s84,s85,s86,s87,s88,s89,s90,s91,s92,s93,s94,s95,s96,s97,s98,s99,s100,s101,s102,s103,s104,s105,s106,s107,s108,s109,s110,s111,s112,s113,s114,s115,s116,s117,s118,s119,s120,s121,s122,s123,s124,s125,s126,s127],defers := [] } W0:=by
 have HQ:=Lib.hid hQ
 have HIH:=Lib.hid IH
 have HS:=Lib.hid (And.intro hL hI)
 have HSz:=Lib.hid hsz
 clear hQ IH hL hI hsz
 refine wp_loop_ghost_k (fun k a wr => ∀ Φ : Act → Prop,(∀ (s0 s1 s5 s6 s7 s8 s9 s11 s13 s14 s15 s16 s19 s20 s21 s22 s23 s24 s25 s26 s27 s28 s29 s30 s31 s32 s33 s34 s35 s36 s37 s38 s39 s40 s41 s42 s43 s44 s45 s46 s47 s48 s49 s50 s51 s52 s53 s54 s55 s56 s57 s58 s59 s60 s61 s62 s63 s64 s65 s66 s67 s68 s69 s70 s71 s72 s73 s74 s75 s76 s77 s78 s79 s80 s81 s82 s83 s84 s85 s86 s87 s88 s89 s90 s91 s92 s93 s94 s95 s96 s97 s98 s99 s100 s101 s102 s103 s104 s105 s106 s107 s108 s109 s110 s111 s112 s113 s114 s115 s116 s117 s118 s119 s120 s121 s122 s123 s124 s125 s126 s127 : Value) (i : Nat) (r : Bool × Trie.Gst) (x y z : Value),(i + k = 16 ∧ Trie.kidsGa F K (Trie.kidAt (kd,p,v,K) pl) 16 st0 = Trie.restS F K (Trie.kidAt (kd,p,v,K) pl) i r ∧ Trie.Sz st0 r.2 ∧ Live w wr ((ob,91,#[x,y,z]) :: (nb,117,(nodeV kd p v K).toArray) :: L) ∧ PartC (fun b=>ok b ∧ b ≠ ob) wr r #[x,y,z]) → Φ { tmps:=#[s0,s1,.string ⟨pl.toArray⟩,.string ⟨f.toArray⟩,.string ⟨e.toArray⟩,s5,s6,s7,s8,s9,.pointer (some ⟨rb,0,none⟩),s11,.pointer (some ⟨nb,0,none⟩),s13,s14,s15,s16,.pointer (some ⟨ob,0,none⟩),.int .i64 (i : Int),s19,s20,s21,s22,s23,s24,s25,s26,s27,s28,s29,s30,s31,s32,s33,s34,s35,s36,s37,s38,s39,s40,s41,s42,s43,s44,s45,s46,s47,s48,s49,s50,s51,s52,s53,s54,s55,s56,s57,s58,s59,s60,s61,s62,s63,s64,s65,s66,s67,s68,s69,s70,s71,s72,s73,s74,s75,s76,s77,s78,s79,s80,s81,s82,s83,s84,s85,s86,s87,s88,s89,s90,s91,s92,s93,s94,s95,s96,s97,s98,s99,s100,s101,s102,s103,s104,s105,s106,s107,s108,s109,s110,s111,s112,s113,s114,s115,s116,s117,s118,s119,s120,s121,s122,s123,s124,s125,s126,s127],defers := [] }) → Φ a) (16) ?_ ?_
 ·refine fun Φ hΦ=>hΦ _ _ _ _ _ _ _ _ _ _ _ _ _ _ _ _ _ _ _ _ _ _ _ _ _ _ _ _ _ _ _ _ _ _ _ _ _ _ _ _ _ _ _ _ _ _ _ _ _ _ _ _ _ _ _ _ _ _ _ _ _ _ _ _ _ _ _ _ _ _ _ _ _ _ _ _ _ _ _ _ _ _ _ _ _ _ _ _ _ _ _ _ _ _ _ _ _ _ _ _ _ _ _ _ _ _ _ _ _ _ _ _ _ _ _ _ _ _ _ _ _ (0) ((true,st0)) (x0) (y0) (z0) ?_
  exact ⟨rfl,rfl,Trie.Sz.refl _,HS.out.1,HS.out.2⟩
 ·intro k1 a1 wr1 hI1 J1 K1 hJ1 hK1
  refine hI1 (fun a=>Code.wp _ _ _ a _) ?_
  clear hI1 a1
  intro s0 s1 s2 s3 s4 s5 s6 s7 s8 s9 s10 s11 s12 s13 s14 s15 s16 s17 s18 s19 s20 s21 s22 s23 s24 s25 s26 s27 s28 s29 s30 s31 s32 s33 s34 s35 s36 s37 s38 s39 s40 s41 s42 s43 s44 s45 s46 s47 s48 s49 s50 s51 s52 s53 s54 s55 s56 s57 s58 s59 s60 s61 s62 s63 s64 s65 s66 s67 s68 s69 s70 s71 s72 s73 s74 s75 s76 s77 s78 s79 s80 s81 s82 s83 s84 s85 s86 s87 s88 s89 s90 s91 s92 s93 s94 s95 s96 s97 s98 s99 s100 s101 s102 s103 s104 s105 s106 s107 s108 s109 s110 s111 s112 s113 s114 s115 s116 s117 s118 s119 s120 i r x y z hrel
  show Code.wp _ _ _ _ _
  conv=>arg 2; whnf
  obtain ⟨h1,h2,h3,h4,h5⟩:=hrel
  by_cases hi : i < 16
  ·have hi1 : (i : Int) < 16:=by omega
   have hix : (0 : Int) ≤ i:=by omega
   have kk : wr1.cell? ⟨nb,3 + i,none⟩ = some (.string ⟨(K.getD i []).toArray⟩):=h4.cell 1 (3 + i) rfl (by simp only [nodeV,List.getElem?_toArray]; rw [show 3 + i = i + 1 + 1 + 1 by omega]; simp only [List.getElem?_cons_succ]; rw [strv,List.getElem?_map,List.getElem?_eq_getElem (by omega)]; simp [List.getD_eq_getElem?_getD,List.getElem?_eq_getElem (show i < K.length by omega)])
   have FL:=Lib.hid h4
   have HPc:=Lib.hid h5
   have HR:=Lib.hid (And.intro h1 (And.intro h2 h3))
   have HIi:=Lib.hid hi
   by_cases hs : K.getD i [] = []
   ·have h6:=Lib.hid (h2.trans (Trie.restS_skip r hi hs))
    rw [hs] at kk
    clear h1 h2 h3 h4 h5 hs hi
    go_wp2_with fail
    refine Handed.intro (16 - (i + 1)) ?_ (hJ1 _ _ _ (fun Φ hΦ=>hΦ _ _ _ _ _ _ _ _ _ _ _ _ _ _ _ _ _ _ _ _ _ _ _ _ _ _ _ _ _ _ _ _ _ _ _ _ _ _ _ _ _ _ _ _ _ _ _ _ _ _ _ _ _ _ _ _ _ _ _ _ _ _ _ _ _ _ _ _ _ _ _ _ _ _ _ _ _ _ _ _ _ _ _ _ _ _ _ _ _ _ _ _ _ _ _ _ _ _ _ _ _ _ _ _ _ _ _ _ _ _ _ _ _ _ _ _ _ _ _ _ _ (i + 1) (r) (x) (y) (z) ?_))
    ·have:=HIi.out; have:=HR.out.1; omega
    ·exact ⟨by have:=HR.out.1; omega,h6.out,HR.out.2.2,FL.out,HPc.out⟩
   ·have h6:=Lib.hid (h2.trans (Trie.restS_step r hi hs))
    have HC:=Lib.hid (fun W hb hl hp=>HIH.out i r #[x,y,z] W hi hs h3 hb hl hp)
    have h7 : Hid (Trie.Sz st0 (Trie.stepS F (K.getD i []) (Trie.kidAt (kd,p,v,K) pl i) r).2):=Lib.hid (by
     unfold Trie.stepS
     split
     ·exact h3.trans (HSz.out _ _ _)
     ·exact h3)
    have hkA : Trie.kidAt (kd,p,v,K) pl i = if kd = 2 then pl ++ p else pl ++ [UInt8.ofNat i]:=rfl
    generalize Trie.kidAt (kd,p,v,K) pl i = at_ at *
    generalize hsi : K.getD i [] = s at *
    have ne1 : (s.toArray = #[]) = False:=by simp [hs]
    have ne2 : s.isEmpty = false:=by simp [hs]
    generalize Trie.stepS F s at_ r = r2 at *
    have cv:=conv1 wr1 (i : Int) hix (by omega)
    rw [show UInt8.ofNat ((i : Int)).toNat = UInt8.ofNat i by congr 1] at cv
    have hsum : pl.length + 1 ≤ 9223372036854775807:=by omega
    have hsum2 : pl.length + p.length ≤ 9223372036854775807:=by omega
    have hm : (i : Int) % 256 = i:=by omega
    have kA : (wr1.alloc (.cells #[.int .u8 (i : Int)] 5)).cell? ⟨nb,3 + i,none⟩ = some (.string ⟨s.toArray⟩):=(World.cell?_alloc_past _ _ _ (h4.lt 1 rfl)).trans kk
    clear h1 h2 h3 h4 h5 hs hi hsi
    have FA:=Live.below FL.out ((Below.refl _ wr1).alloc (Nat.le_refl _) (.cells #[.int .u8 (i : Int)] 5))
    have PA:=HPc.out.next ((Below.refl _ wr1).alloc (Nat.le_refl _) (.cells #[.int .u8 (i : Int)] 5))
    have FA:=Lib.hid FA
    have PA:=Lib.hid PA
    by_cases hk2 : kd = 2
    ·subst hk2
     rw [if_pos rfl] at hkA
     subst hkA
     have n0 : (wr1.alloc (.cells #[.int .u8 (i : Int)] 5)).cell? ⟨nb,0,none⟩ = some (.int .i64 2):=FA.out.cell 1 0 rfl rfl
     have n1 : (wr1.alloc (.cells #[.int .u8 (i : Int)] 5)).cell? ⟨nb,1,none⟩ = some (.string ⟨p.toArray⟩):=FA.out.cell 1 1 rfl rfl
     go_upto_region 25 with fail
     clear n0 n1
     generalize wr1.alloc (.cells #[.int .u8 (i : Int)] 5) = W1 at FA PA kA ⊢
     clear kk FL HPc cv
     have hlt:=FA.out.lt 0 rfl
     have c0 : W1.cell? ⟨ob,0,none⟩ = some x:=FA.out.cell 0 0 rfl rfl
     have c1 : W1.cell? ⟨ob,1,none⟩ = some y:=FA.out.cell 0 1 rfl rfl
     have c2 : W1.cell? ⟨ob,2,none⟩ = some z:=FA.out.cell 0 2 rfl rfl
     refine wp_region_noPanic ?_
     refine wp_region_held_drew (S:=fun w'=>w'.cell? ⟨nb,3 + i,none⟩ = some (.string ⟨s.toArray⟩)) (by kernel_rfl) kA (fun hHeld => ?_)
     refine wpAnyH_take (i:=1) (oi:=⟨some 119,_,_,_,_,_⟩) (v := ?_) rfl (by kernel_rfl) (by kernel_rfl) (by kernel_rfl) (fun _ _ _ h=>h) (Or.inl ⟨by rfl, ?_⟩) (by assumption) ?_
     rotate_left
     ·intro w hSw
      try dsimp only at hSw
      go_simp
      first | done | with_reducible rfl
     try simp only [Act.put,List.setIfInBounds_toArray,List.set_cons_zero,List.set_cons_succ]
     refine wpAnyH_take (i:=2) (oi:=⟨some 120,_,_,_,_,_⟩) (v := ?_) rfl (by kernel_rfl) (by kernel_rfl) (by kernel_rfl) (fun _ _ _ h=>h) (Or.inl ⟨by rfl, ?_⟩) (by assumption) ?_
     rotate_left
     ·intro w hSw
      try dsimp only at hSw
      go_simp
      first | done | with_reducible rfl
     try simp only [Act.put,List.setIfInBounds_toArray,List.set_cons_zero,List.set_cons_succ]
     refine wpAnyH_take (i:=3) (oi:=⟨some 121,_,_,_,_,_⟩) (v := ?_) rfl (by kernel_rfl) (by kernel_rfl) (by kernel_rfl) (fun _ _ _ h=>h) (Or.inl ⟨by rfl, ?_⟩) (by assumption) ?_
     rotate_left
     ·intro w hSw
      try dsimp only at hSw
      go_simp
      first | done | with_reducible rfl
     try simp only [Act.put,List.setIfInBounds_toArray,List.set_cons_zero,List.set_cons_succ]
     refine wpAnyH_take (i:=4) (oi:=⟨some 122,_,_,_,_,_⟩) (v := ?_) rfl (by kernel_rfl) (by kernel_rfl) (by kernel_rfl) (fun _ _ _ h=>h) (Or.inl ⟨by rfl, ?_⟩) (by assumption) ?_
     rotate_left
     ·intro w hSw
      try dsimp only at hSw
      go_simp
      first | done | with_reducible rfl
     try simp only [Act.put,List.setIfInBounds_toArray,List.set_cons_zero,List.set_cons_succ]
     refine wpAnyH_take (i:=5) (oi:=⟨some 123,_,_,_,_,_⟩) (v := ?_) rfl (by kernel_rfl) (by kernel_rfl) (by kernel_rfl) (fun _ _ _ h=>h) (Or.inl ⟨by rfl, ?_⟩) (by assumption) ?_
     rotate_left
     ·intro w hSw
      try dsimp only at hSw
      go_simp
      first | done | with_reducible rfl
     try simp only [Act.put,List.setIfInBounds_toArray,List.set_cons_zero,List.set_cons_succ]
     refine wpAnyH_take (i:=6) (oi:=⟨some 124,_,_,_,_,_⟩) (v := ?_) rfl (by kernel_rfl) (by kernel_rfl) (by kernel_rfl) (fun _ _ _ h=>h) (Or.inl ⟨by rfl, ?_⟩) (by assumption) ?_
     rotate_left
     ·intro w hSw
      try dsimp only at hSw
      go_simp
      first | done | with_reducible rfl
     try simp only [Act.put,List.setIfInBounds_toArray,List.set_cons_zero,List.set_cons_succ]
     refine wpAnyH_take (i:=7) (oi:=⟨some 125,_,_,_,_,_⟩) (v := ?_) rfl (by kernel_rfl) (by kernel_rfl) (by kernel_rfl) (fun _ _ _ h=>h) (Or.inl ⟨by rfl, ?_⟩) (by assumption) ?_
     rotate_left
     ·intro w hSw
      try dsimp only at hSw
      go_simp
      first | done | with_reducible rfl
     try simp only [Act.put,List.setIfInBounds_toArray,List.set_cons_zero,List.set_cons_succ]
     refine wpAnyH_ready (rs := [0]) (by kernel_rfl) (by simp) ?_
     refine AllReadyH.cons rfl (fun K hK => ?_) AllReadyH.nil
     go_simp
     refine hK.out _ _ hHeld (fun hHeld => ?_)
     clear hK
     try simp only [Act.put,List.setIfInBounds_toArray,List.set_cons_zero,List.set_cons_succ]
     refine wpAnyH_ready (rs := [8]) (by kernel_rfl) (by simp) ?_
     refine AllReadyH.cons rfl (fun K hK => ?_) AllReadyH.nil
     go_simp
     (with_reducible refine (HC.out _ ?_ ?_ ?_).mono ?_)
     ·first | exact FA.out.b | exact FA.out.b.drew
     ·exact hlt
     ·first | exact PA.out | exact PA.out.drew
     rintro q w5 ⟨cs5,rfl,hp5,hb5⟩
     have B5 : Below W1.heap.size W1 w5:=(by first | exact hb5 | exact hb5.start)
     have F5:=Live.hb FA B5
     obtain ⟨x5,y5,z5,rfl,o5x,o5y,o5z⟩:=hp5.three
     have P5:=Lib.hid hp5
     have d0 : w5.cell? ⟨ob,0,none⟩ = some x:=F5.out.cell 0 0 rfl rfl
     have d1 : w5.cell? ⟨ob,1,none⟩ = some y:=F5.out.cell 0 1 rfl rfl
     have d2 : w5.cell? ⟨ob,2,none⟩ = some z:=F5.out.cell 0 2 rfl rfl
     have f0:=F5.out.frozen 0 0 rfl
     have f1:=F5.out.frozen 0 1 rfl
     have f2:=F5.out.frozen 0 2 rfl
     have e3:=(B5.cell (p:=⟨nb,3 + i,none⟩) (FA.out.lt 1 rfl)).trans kA
     clear hb5 hp5
     go_simp
     refine hK.out _ _ e3 (fun hHeld => ?_)
     clear hK
     try simp only [Act.put,List.setIfInBounds_toArray,List.set_cons_zero,List.set_cons_succ]
     refine wpAnyH_ready (rs := [9]) (by kernel_rfl) (by simp) ?_
     refine AllReadyH.cons rfl (fun K hK => ?_) AllReadyH.nil
     refine step_store_mid rfl 91 _ _ rfl ob 0 #[x5,y5,z5] rfl rfl (F5.out.there 0 3 rfl (Nat.le_refl _)) info_part (by simp [o5x,o5y,o5z]) ?_
     have hne3 : ob ≠ nb:=(List.pairwise_cons.1 F5.out.d).1 _ (List.mem_cons_self ..)
     refine hK.out _ _ ?_ (fun hHeld => ?_)
     ·show (((w5.setCell ⟨ob,0,none⟩ x5).setCell ⟨ob,1,none⟩ y5).setCell ⟨ob,2,none⟩ z5).cell? ⟨nb,3 + i,none⟩ = _
      rw [World.cell?_setCell_far _ _ _ _ hne3,World.cell?_setCell_far _ _ _ _ hne3,World.cell?_setCell_far _ _ _ _ hne3]
      exact e3
     have G5 : Hid (Live w (w5.setCells ob 0 [x5,y5,z5]) ((ob,91,#[x5,y5,z5]) :: (nb,117,(nodeV 2 p v _).toArray) :: L) ∧ PartC (fun b=>ok b ∧ b ≠ ob) (w5.setCells ob 0 [x5,y5,z5]) r2 #[x5,y5,z5]):=Lib.hid ⟨F5.out.put3 x5 y5 z5,P5.out.put3 x5 y5 z5⟩
     clear hK
     try simp only [Act.put,List.setIfInBounds_toArray,List.set_cons_zero,List.set_cons_succ]
     refine wpAnyH_done (by kernel_rfl) ?_ _
     refine NoPanic.normal ?_
     go_wp2_with fail
     refine Handed.intro (16 - (i + 1)) ?_ (hJ1 _ _ _ (fun Φ hΦ=>hΦ _ _ _ _ _ _ _ _ _ _ _ _ _ _ _ _ _ _ _ _ _ _ _ _ _ _ _ _ _ _ _ _ _ _ _ _ _ _ _ _ _ _ _ _ _ _ _ _ _ _ _ _ _ _ _ _ _ _ _ _ _ _ _ _ _ _ _ _ _ _ _ _ _ _ _ _ _ _ _ _ _ _ _ _ _ _ _ _ _ _ _ _ _ _ _ _ _ _ _ _ _ _ _ _ _ _ _ _ _ _ _ _ _ _ _ _ _ _ _ _ _ (i + 1) (r2) (x5) (y5) (z5) ?_))
     ·have:=HIi.out; have:=HR.out.1; omega
     ·exact ⟨by have:=HR.out.1; omega,h6.out,h7.out,G5.out.1,G5.out.2⟩
    ·have hkI : ((kd : Int) == 2) = false:=by simp; omega
     rw [if_neg hk2] at hkA
     subst hkA
     clear hk2
     have n0 : (wr1.alloc (.cells #[.int .u8 (i : Int)] 5)).cell? ⟨nb,0,none⟩ = some (.int .i64 (kd : Int)):=FA.out.cell 1 0 rfl rfl
     have n1 : (wr1.alloc (.cells #[.int .u8 (i : Int)] 5)).cell? ⟨nb,1,none⟩ = some (.string ⟨p.toArray⟩):=FA.out.cell 1 1 rfl rfl
     go_upto_region 25 with fail
     clear n0 n1
     generalize wr1.alloc (.cells #[.int .u8 (i : Int)] 5) = W1 at FA PA kA ⊢
     clear kk FL HPc cv
     have hlt:=FA.out.lt 0 rfl
     have c0 : W1.cell? ⟨ob,0,none⟩ = some x:=FA.out.cell 0 0 rfl rfl
     have c1 : W1.cell? ⟨ob,1,none⟩ = some y:=FA.out.cell 0 1 rfl rfl
     have c2 : W1.cell? ⟨ob,2,none⟩ = some z:=FA.out.cell 0 2 rfl rfl
     refine wp_region_noPanic ?_
     refine wp_region_held_drew (S:=fun w'=>w'.cell? ⟨nb,3 + i,none⟩ = some (.string ⟨s.toArray⟩)) (by kernel_rfl) kA (fun hHeld => ?_)
     refine wpAnyH_take (i:=1) (oi:=⟨some 119,_,_,_,_,_⟩) (v := ?_) rfl (by kernel_rfl) (by kernel_rfl) (by kernel_rfl) (fun _ _ _ h=>h) (Or.inl ⟨by rfl, ?_⟩) (by assumption) ?_
     rotate_left
     ·intro w hSw
      try dsimp only at hSw
      go_simp
      first | done | with_reducible rfl
     try simp only [Act.put,List.setIfInBounds_toArray,List.set_cons_zero,List.set_cons_succ]
     refine wpAnyH_take (i:=2) (oi:=⟨some 120,_,_,_,_,_⟩) (v := ?_) rfl (by kernel_rfl) (by kernel_rfl) (by kernel_rfl) (fun _ _ _ h=>h) (Or.inl ⟨by rfl, ?_⟩) (by assumption) ?_
     rotate_left
     ·intro w hSw
      try dsimp only at hSw
      go_simp
      first | done | with_reducible rfl
     try simp only [Act.put,List.setIfInBounds_toArray,List.set_cons_zero,List.set_cons_succ]
     refine wpAnyH_take (i:=3) (oi:=⟨some 121,_,_,_,_,_⟩) (v := ?_) rfl (by kernel_rfl) (by kernel_rfl) (by kernel_rfl) (fun _ _ _ h=>h) (Or.inl ⟨by rfl, ?_⟩) (by assumption) ?_
     rotate_left
     ·intro w hSw
      try dsimp only at hSw
      go_simp
      first | done | with_reducible rfl
     try simp only [Act.put,List.setIfInBounds_toArray,List.set_cons_zero,List.set_cons_succ]
     refine wpAnyH_take (i:=4) (oi:=⟨some 122,_,_,_,_,_⟩) (v := ?_) rfl (by kernel_rfl) (by kernel_rfl) (by kernel_rfl) (fun _ _ _ h=>h) (Or.inl ⟨by rfl, ?_⟩) (by assumption) ?_
     rotate_left
     ·intro w hSw
      try dsimp only at hSw
      go_simp
      first | done | with_reducible rfl
     try simp only [Act.put,List.setIfInBounds_toArray,List.set_cons_zero,List.set_cons_succ]
     refine wpAnyH_take (i:=5) (oi:=⟨some 123,_,_,_,_,_⟩) (v := ?_) rfl (by kernel_rfl) (by kernel_rfl) (by kernel_rfl) (fun _ _ _ h=>h) (Or.inl ⟨by rfl, ?_⟩) (by assumption) ?_
     rotate_left
     ·intro w hSw
      try dsimp only at hSw
      go_simp
      first | done | with_reducible rfl
     try simp only [Act.put,List.setIfInBounds_toArray,List.set_cons_zero,List.set_cons_succ]
     refine wpAnyH_take (i:=6) (oi:=⟨some 124,_,_,_,_,_⟩) (v := ?_) rfl (by kernel_rfl) (by kernel_rfl) (by kernel_rfl) (fun _ _ _ h=>h) (Or.inl ⟨by rfl, ?_⟩) (by assumption) ?_
     rotate_left
     ·intro w hSw
      try dsimp only at hSw
      go_simp
      first | done | with_reducible rfl
     try simp only [Act.put,List.setIfInBounds_toArray,List.set_cons_zero,List.set_cons_succ]
     refine wpAnyH_take (i:=7) (oi:=⟨some 125,_,_,_,_,_⟩) (v := ?_) rfl (by kernel_rfl) (by kernel_rfl) (by kernel_rfl) (fun _ _ _ h=>h) (Or.inl ⟨by rfl, ?_⟩) (by assumption) ?_
     rotate_left
     ·intro w hSw
      try dsimp only at hSw
      go_simp
      first | done | with_reducible rfl
     try simp only [Act.put,List.setIfInBounds_toArray,List.set_cons_zero,List.set_cons_succ]
     refine wpAnyH_ready (rs := [0]) (by kernel_rfl) (by simp) ?_
     refine AllReadyH.cons rfl (fun K hK => ?_) AllReadyH.nil
     go_simp
     refine hK.out _ _ hHeld (fun hHeld => ?_)
     clear hK
     try simp only [Act.put,List.setIfInBounds_toArray,List.set_cons_zero,List.set_cons_succ]
     refine wpAnyH_ready (rs := [8]) (by kernel_rfl) (by simp) ?_
     refine AllReadyH.cons rfl (fun K hK => ?_) AllReadyH.nil
     go_simp
     (with_reducible refine (HC.out _ ?_ ?_ ?_).mono ?_)
     ·first | exact FA.out.b | exact FA.out.b.drew
     ·exact hlt
     ·first | exact PA.out | exact PA.out.drew
     rintro q w5 ⟨cs5,rfl,hp5,hb5⟩
     have B5 : Below W1.heap.size W1 w5:=(by first | exact hb5 | exact hb5.start)
     have F5:=Live.hb FA B5
     obtain ⟨x5,y5,z5,rfl,o5x,o5y,o5z⟩:=hp5.three
     have P5:=Lib.hid hp5
     have d0 : w5.cell? ⟨ob,0,none⟩ = some x:=F5.out.cell 0 0 rfl rfl
     have d1 : w5.cell? ⟨ob,1,none⟩ = some y:=F5.out.cell 0 1 rfl rfl
     have d2 : w5.cell? ⟨ob,2,none⟩ = some z:=F5.out.cell 0 2 rfl rfl
     have f0:=F5.out.frozen 0 0 rfl
     have f1:=F5.out.frozen 0 1 rfl
     have f2:=F5.out.frozen 0 2 rfl
     have e3:=(B5.cell (p:=⟨nb,3 + i,none⟩) (FA.out.lt 1 rfl)).trans kA
     clear hb5 hp5
     go_simp
     refine hK.out _ _ e3 (fun hHeld => ?_)
     clear hK
     try simp only [Act.put,List.setIfInBounds_toArray,List.set_cons_zero,List.set_cons_succ]
     refine wpAnyH_ready (rs := [9]) (by kernel_rfl) (by simp) ?_
     refine AllReadyH.cons rfl (fun K hK => ?_) AllReadyH.nil
     refine step_store_mid rfl 91 _ _ rfl ob 0 #[x5,y5,z5] rfl rfl (F5.out.there 0 3 rfl (Nat.le_refl _)) info_part (by simp [o5x,o5y,o5z]) ?_
     have hne3 : ob ≠ nb:=(List.pairwise_cons.1 F5.out.d).1 _ (List.mem_cons_self ..)
     refine hK.out _ _ ?_ (fun hHeld => ?_)
     ·show (((w5.setCell ⟨ob,0,none⟩ x5).setCell ⟨ob,1,none⟩ y5).setCell ⟨ob,2,none⟩ z5).cell? ⟨nb,3 + i,none⟩ = _
      rw [World.cell?_setCell_far _ _ _ _ hne3,World.cell?_setCell_far _ _ _ _ hne3,World.cell?_setCell_far _ _ _ _ hne3]
      exact e3
     have G5 : Hid (Live w (w5.setCells ob 0 [x5,y5,z5]) ((ob,91,#[x5,y5,z5]) :: (nb,117,(nodeV kd p v _).toArray) :: L) ∧ PartC (fun b=>ok b ∧ b ≠ ob) (w5.setCells ob 0 [x5,y5,z5]) r2 #[x5,y5,z5]):=Lib.hid ⟨F5.out.put3 x5 y5 z5,P5.out.put3 x5 y5 z5⟩
     clear hK
     try simp only [Act.put,List.setIfInBounds_toArray,List.set_cons_zero,List.set_cons_succ]
     refine wpAnyH_done (by kernel_rfl) ?_ _
     refine NoPanic.normal ?_
     go_wp2_with fail
     refine Handed.intro (16 - (i + 1)) ?_ (hJ1 _ _ _ (fun Φ hΦ=>hΦ _ _ _ _ _ _ _ _ _ _ _ _ _ _ _ _ _ _ _ _ _ _ _ _ _ _ _ _ _ _ _ _ _ _ _ _ _ _ _ _ _ _ _ _ _ _ _ _ _ _ _ _ _ _ _ _ _ _ _ _ _ _ _ _ _ _ _ _ _ _ _ _ _ _ _ _ _ _ _ _ _ _ _ _ _ _ _ _ _ _ _ _ _ _ _ _ _ _ _ _ _ _ _ _ _ _ _ _ _ _ _ _ _ _ _ _ _ _ _ _ _ (i + 1) (r2) (x5) (y5) (z5) ?_))
     ·have:=HIi.out; have:=HR.out.1; omega
     ·exact ⟨by have:=HR.out.1; omega,h6.out,h7.out,G5.out.1,G5.out.2⟩
  ·have e16 : i = 16:=by omega
   subst e16
   have O:=Lib.hid (And.intro h4 (by rw [Trie.restS_end] at h2; rw [h2]; exact h5 : PartC (fun b=>ok b ∧ b ≠ ob) wr1 (Trie.kidsGa F K (Trie.kidAt (kd,p,v,K) pl) 16 st0) #[x,y,z]))
   clear h1 h2 h3 h4 h5
   go_wp2_with fail
   exact HQ.out _ _ _ _ _ _ _ _ _ _ _ _ _ _ _ _ _ _ _ _ _ _ _ _ _ _ _ _ _ _ _ _ _ _ _ _ _ _ _ _ _ _ _ _ _ _ _ _ _ _ _ _ _ _ _ _ _ _ _ _ _ _ _ _ _ _ _ _ _ _ _ _ _ _ _ _ _ _ _ _ _ _ _ _ _ _ _ _ _ _ _ _ _ _ _ _ _ _ _ _ _ _ _ _ _ _ _ _ _ _ _ _ _ _ _ _ _ _ _ _ _ _ _ _ _ _ x y z _ O.out.1 O.out.2
end Go.Proofs.YtomnlhbioijfhaaGreatDoor
