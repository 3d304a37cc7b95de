import Derived.Test.YtomnlhbioijfhaaGreatDoorJ31
import Derived.Test.YtomnlhbioijfhaaGreatDoorJ06
import Derived.Test.YtomnlhbioijfhaaGreatDoorJ11
import Derived.Test.YtomnlhbioijfhaaGreatDoorJ07
import Derived.Test.YtomnlhbioijfhaaGreatDoorJ19
import Derived.Test.YtomnlhbioijfhaaGreatDoorJ22
import Derived.RangeFuncNested
import Derived.RangeFuncBound
import Derived.RangeFuncCalls
import Derived.RangeFuncLeaves
import Derived.Shelf.Abstract
import Derived.Shelf.RegionOpen
import Derived.WalkKit
import Derived.OwnWalkIn
import Derived.TacticsInMore
import Derived.LoopNIn
import Derived.LoopIn
import Derived.Maps.AppendAt
import Derived.Sort.LoopGhostIn
set_option linter.unusedSimpArgs false
set_option linter.unusedVariables false
namespace Go.Proofs.YtomnlhbioijfhaaGreatDoor
open Go.RowKit Go.Instr
attribute [local go_sem] ba_get ByteArray.mk_append_mk
set_option maxHeartbeats 1000000 in
theorem scan_Behind (w : World) (key : List UInt8) :
  Calls Tryz.prog 77 #[.string ⟨key.toArray⟩] w (Ret w (.string ⟨(Trie.behindW key).toArray⟩)):=by
 have HP : Hid (∀ s w',Trie.behindW key = s → Below w.heap.size w w' → Ret w (.string ⟨(Trie.behindW key).toArray⟩) (Ending.returned (.string ⟨s.toArray⟩)) w'):=Lib.hid (fun s W' a1 a2=>⟨by rw [a1],a2⟩)
 by_cases h8 : 8 < key.length
 ·have HB:=Lib.hid (Trie.behind_long h8)
  generalize Ret w (.string ⟨(Trie.behindW key).toArray⟩) = P at HP ⊢
  have hI : (8 : Int) < key.length:=by omega
  clear h8
  go_enter Tryz.func77,Tryz.ntmps77
  go_wp2_with fail
  exact HP.out [] _ HB.out (Below.refl _ _)
 have hI : ((8 : Int) < key.length) = False:=by simp; omega
 by_cases h7 : key.length < 8
 ·have HB:=Lib.hid (Trie.behind_short h7)
  generalize Ret w (.string ⟨(Trie.behindW key).toArray⟩) = P at HP ⊢
  have hJ : (key.length : Int) < 8:=by omega
  have hsum : key.length + 1 ≤ 9223372036854775807:=by omega
  clear h8 h7
  go_enter Tryz.func77,Tryz.ntmps77
  go_wp2_with fail
  exact HP.out _ _ HB.out (Below.refl _ _)
 have h8' : key.length = 8:=by omega
 have HZ : Hid (∀ n,n ≤ 8 → (∀ i,n ≤ i → i < 8 → key[i]? = some 255) → (n = 0 → Trie.behindW key = []) ∧ (∀ m,n = m + 1 → key.getD m 0 ≠ 255 → Trie.behindW key = key.take m ++ [key.getD m 0 + 1])):=Lib.hid (fun n hn hi=>⟨fun e=>by subst e; exact Trie.behind_zero h8' (fun i h=>hi i (Nat.zero_le _) h),fun m e hne=>by
  subst e
  have hm : m < key.length:=by omega
  have e1 : key.getD m 0 = key[m]:=by rw [List.getD_eq_getElem?_getD,List.getElem?_eq_getElem hm]; rfl
  rw [e1] at hne ⊢
  exact Trie.behind_at h8' hn (Nat.succ_pos _) hi (by rw [Nat.add_sub_cancel,List.getElem?_eq_getElem hm]) hne⟩)
 generalize Ret w (.string ⟨(Trie.behindW key).toArray⟩) = P at HP ⊢
 have hL : (key.length : Int) = 8:=by omega
 have H8:=Lib.hid h8'
 clear h8 h7 h8' hI
 go_enter Tryz.func77,Tryz.ntmps77
 go_wp2_with fail
 refine wp_loop_ghost_k (fun k a wr => ∀ Φ : Act → Prop,(∀ (s1 s2 s4 s5 s6 s7 s8 s9 s10 s11 s12 s13 s14 s15 s16 s17 s18 s19 s20 s21 s22 s23 s24 s25 s26 s27 s28 s29 s30 s31 s32 s33 s34 s35 s36 s37 s38 : Value) (n : Nat),(n ≤ 8 ∧ k = n ∧ (∀ i,n ≤ i → i < 8 → key[i]? = some 255) ∧ Below w.heap.size w wr) → Φ { tmps:=#[.string ⟨key.toArray⟩,s1,s2,.int .i64 (n : Int),s4,s5,s6,s7,s8,s9,s10,s11,s12,s13,s14,s15,s16,s17,s18,s19,s20,s21,s22,s23,s24,s25,s26,s27,s28,s29,s30,s31,s32,s33,s34,s35,s36,s37,s38],defers := [] }) → Φ a) (8) ?_ ?_
 ·refine fun Φ hΦ=>hΦ _ _ _ _ _ _ _ _ _ _ _ _ _ _ _ _ _ _ _ _ _ _ _ _ _ _ _ _ _ _ _ _ _ _ _ _ _ (8) ?_
  exact ⟨Nat.le_refl _,rfl,fun i h1 h2=>absurd h2 (by omega),Below.refl _ _⟩
 ·intro k1 a1 wr1 hI1 J1 K1 hJ1 hK1
  refine hI1 (fun a=>Code.wp _ _ _ a _) ?_
  clear hI1 a1
  intro s0 s1 s2 s3 s4 s5 s6 s7 s8 s9 s10 s11 s12 s13 s14 s15 s16 s17 s18 s19 s20 s21 s22 s23 s24 s25 s26 s27 s28 s29 s30 s31 s32 s33 s34 s35 s36 n hrel
  show Code.wp _ _ _ _ _
  obtain ⟨h1,h2,h3,hb⟩:=hrel
  have HH:=Lib.hid h3
  have HBl:=Lib.hid hb
  clear h3 hb
  cases n with
  | zero =>
   have HB:=Lib.hid ((HZ.out 0 (by omega) HH.out).1 rfl)
   clear h1 h2 HZ
   go_wp2_with fail
   exact HP.out [] _ HB.out HBl.out
  | succ m =>
   have hm : m < key.length:=by have:=H8.out; omega
   have HX:=fun W=>run_byte key m hm W
   have hp : (0 : Int) < (m : Int) + 1:=by omega
   have em : ((m : Int) + 1 - 1) = (m : Int):=by omega
   have hw : IntKind.i64.wrap (m : Int) = (m : Int):=IntWalk.i64_in _ (by omega)
   have HN:=Lib.hid ((HZ.out (m + 1) h1 HH.out).2 m rfl)
   have HU : Hid (key.getD m 0 = 255 → ∀ i,m ≤ i → i < 8 → key[i]? = some 255):=Lib.hid (fun e i g1 g2=>by
    by_cases hi : i = m
    ·subst hi
     rw [List.getElem?_eq_getElem hm]
     rw [List.getD_eq_getElem?_getD,List.getElem?_eq_getElem hm] at e
     exact congrArg some e
    ·exact HH.out i (by omega) g2)
   have HT:=fun W=>run_take key m (by omega) W
   have HM:=Lib.hid (And.intro h1 (And.intro h2 hm))
   clear HZ h1 h2 HH
   generalize key.getD m 0 = b at *
   by_cases hb : b = 255
   ·have hbI : ((b.toNat : Int) == 255) = true:=by subst hb; rfl
    have HU2:=Lib.hid (HU.out hb)
    clear hb HU HN HT
    go_wp2_with fail
    refine Handed.intro (m) ?_ (hJ1 _ _ _ (fun Φ hΦ=>hΦ _ _ _ _ _ _ _ _ _ _ _ _ _ _ _ _ _ _ _ _ _ _ _ _ _ _ _ _ _ _ _ _ _ _ _ _ _ (m) ?_))
    ·have:=HM.out.2.1; omega
    ·exact ⟨by have:=HM.out.1; omega,rfl,HU2.out,HBl.out⟩
   ·have hn255 : b.toNat ≠ 255:=fun e=>hb (UInt8.toNat_inj.1 e)
    have hbI : ((b.toNat : Int) == 255) = false:=by simp; omega
    have hlt:=b.toNat_lt
    have HB:=Lib.hid (HN.out hb)
    have hbw : IntKind.u8.wrap ((b.toNat : Int) + 1) = (b.toNat : Int) + 1:=IntWalk.u8_in _ (by omega)
    have hcv : UInt8.ofNat ((b.toNat : Int) + 1).toNat = b + 1:=by
     apply UInt8.toNat_inj.1
     rw [UInt8.toNat_add]
     simp
    have hq0 : (0 : Int) ≤ (b.toNat : Int) + 1:=by omega
    have hq1 : (b.toNat : Int) + 1 < 256:=by omega
    have hc1:=fun W=>conv1 W ((b.toNat : Int) + 1) hq0 hq1
    have hc2:=fun W=>conv1d W ((b.toNat : Int) + 1) hq0 hq1
    rw [hcv] at hc1 hc2
    have hmz : ((m : Int) + 1 == 0) = false:=by simp; omega
    have hjs : (key.take m).length + 1 ≤ 9223372036854775807:=by rw [List.length_take]; omega
    clear hb HU HN hn255 hcv hlt hq0 hq1
    generalize key.take m = pre at *
    go_wp2_with fail
    go_region
    all_goals go_wp2
    all_goals exact HP.out _ _ HB.out (HBl.out.nxt (by go_grown))
end Go.Proofs.YtomnlhbioijfhaaGreatDoor
namespace Go.Proofs.YtomnlhbioijfhaaGreatDoor
open Go.RowKit Go.Shelf Go.Instr
attribute [local go_sem] ba_get ByteArray.mk_append_mk
attribute [local go_sem] Oper.semAt_some
def NotOwn (b : Nat) (W : World) (g : Nat) : Prop := ∀ o n c,W.cell? ⟨b,0,none⟩ ≠ some (.slice (some ⟨g,o,none⟩) n c)
def Safe (b : Nat) (W : World) (g : Nat) : Prop:=g ≠ b ∧ g ≠ b + 1 ∧ g ≠ b + 2 ∧ (∃ o,W.heap[g]? = some o ∧ o.isCells = true) ∧ NotOwn b W g
def KpI (b : Nat) (W W' : World) : Prop:=W.heap.size ≤ W'.heap.size ∧ ∀ g,Safe b W g → W'.heap[g]? = W.heap[g]? ∧ NotOwn b W' g
theorem KpI.safe {b g : Nat} {W W' : World} (h : KpI b W W') (hs : Safe b W g) : Safe b W' g:=by
 obtain ⟨h1,h2⟩:=h.2 g hs
 obtain ⟨a1,a2,a3,⟨o,a4,a5⟩,a6⟩:=hs
 exact ⟨a1,a2,a3,⟨o,h1.trans a4,a5⟩,h2⟩
theorem KpI.trans {b : Nat} {A B C : World} (h : KpI b A B) (k : KpI b B C) : KpI b A C :=
 ⟨Nat.le_trans h.1 k.1,fun g hs=>⟨((k.2 g (h.safe hs)).1).trans (h.2 g hs).1,(k.2 g (h.safe hs)).2⟩⟩
theorem cell_of_heap {W W' : World} {p : Addr} (h : W'.heap[p.block]? = W.heap[p.block]?) : W'.cell? p = W.cell? p:=by
 unfold World.cell?
 rw [h]
theorem KpI.book {b : Nat} {w : World} (hb : b < w.heap.size) (W : World) (l : Nat) (o o' : Obj) (hl : w.heap.size ≤ l) (h : W.heap[l]? = some o) (hc : o.isCells = false) (_ : o.isWalk = false) : KpI b W (W.putObj l o'):=by
 refine ⟨by simp [World.putObj],fun g hs => ?_⟩
 obtain ⟨a1,a2,a3,⟨o1,a4,a5⟩,a6⟩:=hs
 have hne : g ≠ l:=fun e=>by subst e; rw [h] at a4; cases a4; rw [hc] at a5; cases a5
 refine ⟨World.putObj_heap_other hne,fun o2 n c => ?_⟩
 rw [cell_of_heap (W:=W) (World.putObj_heap_other (by simp only; omega))]
 exact a6 o2 n c
structure KeepS (b : Nat) (W1 W : World) (S : Nat → Prop) : Prop where
 size : W1.heap.size ≤ W.heap.size
 same : ∀ g,S g → W.heap[g]? = W1.heap[g]?
 safe : ∀ g,S g → Safe b W g
theorem KeepS.kp {b : Nat} {W1 W W' : World} {S : Nat → Prop} (h : KeepS b W1 W S) (k : KpI b W W') : KeepS b W1 W' S :=
 ⟨Nat.le_trans h.size k.1,fun g hg=>((k.2 g (h.safe g hg)).1).trans (h.same g hg),fun g hg=>k.safe (h.safe g hg)⟩
theorem KeepS.alloc {b : Nat} {W1 W : World} {S : Nat → Prop} (h : KeepS b W1 W S) (hb : b < W.heap.size) (o : Obj) : KeepS b W1 (W.alloc o) S:=by
 have hs : ∀ g,g < W.heap.size → (W.alloc o).heap[g]? = W.heap[g]?:=fun g hg=>Below.heap_alloc _ _ _ hg
 have lt : ∀ g,S g → g < W.heap.size:=fun g hg=>by
  obtain ⟨_,_,_,⟨o1,a4,_⟩,_⟩:=h.safe g hg
  exact (Array.getElem?_eq_some_iff.1 a4).1
 refine ⟨Nat.le_trans h.size (by simp),fun g hg=>(hs g (lt g hg)).trans (h.same g hg),fun g hg => ?_⟩
 obtain ⟨a1,a2,a3,⟨o1,a4,a5⟩,a6⟩:=h.safe g hg
 refine ⟨a1,a2,a3,⟨o1,(hs g (lt g hg)).trans a4,a5⟩,fun o2 n c => ?_⟩
 rw [cell_of_heap (W:=W) (hs b hb)]
 exact a6 o2 n c
theorem KeepS.cell {b : Nat} {W1 W : World} {S : Nat → Prop} (h : KeepS b W1 W S) {p : Addr} (hp : S p.block) : W.cell? p = W1.cell? p:=cell_of_heap (h.same _ hp)
theorem cells_of_cell {W : World} {p : Addr} {v : Value} (hv : W.cell? p = some v) : ∃ o,W.heap[p.block]? = some o ∧ o.isCells = true:=by
 unfold World.cell? at hv
 split at hv
 ·rename_i c t e ho
  exact ⟨_,ho,rfl⟩
 ·cases hv
theorem KeepS.start {b : Nat} {W : World} {S : Nat → Prop} (hn : W.cell? ⟨b,0,none⟩ = some (.slice none 0 0)) (h : ∀ g,S g → g ≠ b ∧ g ≠ b + 1 ∧ g ≠ b + 2 ∧ ∃ o,W.heap[g]? = some o ∧ o.isCells = true) : KeepS b W W S:=by
 refine ⟨Nat.le_refl _,fun _ _=>rfl,fun g hg => ?_⟩
 obtain ⟨a1,a2,a3,hv⟩:=h g hg
 exact ⟨a1,a2,a3,hv,fun o n c e=>by rw [hn] at e; injection e with e; injection e with e; cases e⟩
theorem iter_next {B : Nat} {J : List Trie.KV → World → Prop} (h : AbidesFrom B J) {pre : List Trie.KV} {W W' : World} (hj : J pre W) (hb : Below W.heap.size W W') : J pre W' :=
 h pre W W' none hj (only_of_below hb none) (fun r e=>by cases e)
theorem allIn_snoc (l : List Trie.KV) (x : Trie.KV) (f e : List UInt8) : Trie.allIn (l ++ [x]) f e = if Trie.inK f e x.1 = true then Trie.allIn l f e ++ [x] else Trie.allIn l f e:=by
 unfold Trie.allIn
 rw [List.filter_append]
 by_cases h : Trie.inK f e x.1 = true
 ·rw [if_pos h]; simp [h]
 ·rw [if_neg h]; simp [h]
theorem allIn_stop {L : List Trie.KV} (hr : Trie.rises L) (f e : List UInt8) (he : e ≠ []) (i : Nat) (hi : i < L.length) (hx : Op.bytesLess L[i].1 e = false) : Trie.allIn L f e = Trie.allIn (L.take i) f e:=by
 have hd : Trie.allIn (L.drop i) f e = []:=by
  unfold Trie.allIn
  rw [List.filter_eq_nil_iff]
  intro y hy
  obtain ⟨j,hj,rfl⟩:=List.getElem_of_mem hy
  rw [List.length_drop] at hj
  rw [List.getElem_drop]
  have hle : Op.bytesLess (L[i + j]'(by omega)).1 e = false:=by
   by_cases h0 : j = 0
   ·subst h0; exact hx
   ·have h1:=List.pairwise_iff_getElem.1 hr i (i + j) hi (by omega) (by omega)
    cases h2 : Op.bytesLess (L[i + j]'(by omega)).1 e with
    | false=>rfl
    | true=>rw [bl_trans _ _ _ h1 h2] at hx; cases hx
  unfold Trie.inK
  simp [hle,he]
 conv=>lhs; rw [← List.take_append_drop i L]
 unfold Trie.allIn at hd ⊢
 rw [List.filter_append,hd,List.append_nil]
theorem allIn_take_le (L : List Trie.KV) (f e : List UInt8) (i : Nat) : Trie.allIn (L.take i) f e <+: Trie.allIn L f e:=by
 refine ⟨Trie.allIn (L.drop i) f e, ?_⟩
 unfold Trie.allIn
 rw [← List.filter_append,List.take_append_drop]
set_option maxHeartbeats 1000000 in
theorem scan_within (w : World) (p : Option Addr) (f e : ByteArray) :
  CallsIn Fence.wide 5 Tryz.prog 107 #[.pointer p,.string f,.string e] w fun r w'=>r = .returned (.func (.func 135) #[] #[.pointer (some ⟨w.heap.size,0,none⟩),.pointer (some ⟨w.heap.size + 1,0,none⟩),.pointer (some ⟨w.heap.size + 1 + 1,0,none⟩)]) ∧
   w' = ((w.alloc (.cells #[.pointer p] 47)).alloc (.cells #[.string f] 9)).alloc (.cells #[.string e] 9):=by
 refine callsIn_of_wp Tryz.func107 rfl trivial ?_ rfl
 simp only [Tryz.ntmps107,List.size_toArray,List.length_cons,List.length_nil,Nat.reduceAdd,Nat.reduceSub,Array.replicate_succ,Array.replicate_zero,List.push_toArray,List.append_toArray,List.nil_append,List.cons_append]
 gi_wp2
 go_ret
 exact ⟨rfl,rfl⟩
def kvA (x : Trie.KV) : Array Value:=#[.agg #[.string ⟨x.1.toArray⟩,.string ⟨x.2.toArray⟩]]
set_option maxRecDepth 100000 in
set_option maxHeartbeats 4000000 in
theorem scan_iter (w0 : World) (t : Trie.T) (v : Value) (hT : TrieP w0 t v) (hc : Trie.count t ≤ 20000) (f e : List UInt8) (b b1 : Nat) (hv : w0.cell? ⟨b1,0,none⟩ = some v) (hf : w0.cell? ⟨b1 + 1,0,none⟩ = some (.string ⟨f.toArray⟩)) (he : w0.cell? ⟨b1 + 1 + 1,0,none⟩ = some (.string ⟨e.toArray⟩)) (hb1 : b + 2 < b1) (hnil : w0.cell? ⟨b,0,none⟩ = some (.slice none 0 0)) :
  SeqStopsK Fence.wide 5 Tryz.prog 135 #[.pointer (some ⟨b1,0,none⟩),.pointer (some ⟨b1 + 1,0,none⟩),.pointer (some ⟨b1 + 1 + 1,0,none⟩)] kvA (KpI b) (fun ys=>ys = Trie.allIn (Trie.itemsW t) f e) (fun pre=>pre <+: Trie.allIn (Trie.itemsW t) f e) (Trie.allIn (Trie.itemsW t) f e).length w0:=by
 intro l J Jx W hW hJ hJx hY h0
 have hlt : ∀ {g : Nat} {u : Value},w0.cell? ⟨g,0,none⟩ = some u → g < w0.heap.size:=fun h=>World.block_lt_of_cell? _ _ h
 have cv : W.cell? ⟨b1,0,none⟩ = some v:=(hW.cell (p:=⟨b1,0,none⟩) (hlt hv)).trans hv
 have HC2 : Hid (W.cell? ⟨b1 + 1,0,none⟩ = some (.string ⟨f.toArray⟩)):=Lib.hid ((hW.cell (p:=⟨b1 + 1,0,none⟩) (hlt hf)).trans hf)
 have HC3 : Hid (W.cell? ⟨b1 + 1 + 1,0,none⟩ = some (.string ⟨e.toArray⟩)):=Lib.hid ((hW.cell (p:=⟨b1 + 1 + 1,0,none⟩) (hlt he)).trans he)
 have HN : Hid (W.cell? ⟨b,0,none⟩ = some (.slice none 0 0)):=Lib.hid ((hW.cell (p:=⟨b,0,none⟩) (hlt hnil)).trans hnil)
 have HBL : Hid (b < W.heap.size ∧ b1 + 1 + 1 < W.heap.size):=Lib.hid (by have:=hlt he; have:=hlt hnil; have:=hW.size; omega)
 have HIt : Hid (Calls Tryz.prog 19 #[v] W (ItemsEnd W (Trie.itemsW t))):=Lib.hid (trie_Items W t v (hT.next hW) hc)
 have hr:=Trie.rises_itemsW hT.1
 have hLc : (Trie.itemsW t).length ≤ 20000:=by rw [Trie.itemsW,List.length_map,Trie.length_items]; exact hc
 have HJ0 : Hid (∀ {pre : List Trie.KV} {W W' : World},J pre W → Below W.heap.size W W' → J pre W'):=Lib.hid (fun hj hb=>iter_next hJ hj hb)
 have HY:=Lib.hid hY
 have HJs:=Lib.hid h0
 have HR : Hid (Trie.rises (Trie.itemsW t)):=Lib.hid hr
 have HP : Hid (∀ W' : World,(∃ u,Ending.returned (.tuple #[]) = .returned u) ∧ ((J (Trie.allIn (Trie.itemsW t) f e) W' ∨ ∃ pre,pre <+: Trie.allIn (Trie.itemsW t) f e ∧ Jx pre W')) → (fun (e1 : Ending) W'=>(∃ v,e1 = .returned v) ∧ ((∃ xs,xs = Trie.allIn (Trie.itemsW t) f e ∧ J xs W') ∨ (∃ pre,pre <+: Trie.allIn (Trie.itemsW t) f e ∧ Jx pre W'))) (.returned (.tuple #[])) W'):=Lib.hid (fun W' h=>⟨h.1,by
  rcases h.2 with h | h
  ·exact .inl ⟨_,rfl,h⟩
  ·exact .inr h⟩)
 show CallsIn _ _ _ _ _ _ (fun (e1 : Ending) W'=>(∃ v,e1 = .returned v) ∧ ((∃ xs,xs = Trie.allIn (Trie.itemsW t) f e ∧ J xs W') ∨ (∃ pre,pre <+: Trie.allIn (Trie.itemsW t) f e ∧ Jx pre W')))
 generalize (fun (e1 : Ending) (W' : World)=>(∃ v,e1 = Ending.returned v) ∧ ((∃ xs,xs = Trie.allIn (Trie.itemsW t) f e ∧ J xs W') ∨ (∃ pre,pre <+: Trie.allIn (Trie.itemsW t) f e ∧ Jx pre W'))) = P at HP ⊢
 clear hY h0 hv hf he hnil hW hT hc hr hJ hJx
 generalize Trie.itemsW t = L at *
 refine callsIn_of_wp Tryz.func135 rfl trivial ?_ rfl
 simp only [Tryz.ntmps135,List.size_toArray,List.length_cons,List.length_nil,Nat.reduceAdd,Nat.reduceSub,Array.replicate_succ,Array.replicate_zero,List.push_toArray,List.append_toArray,List.nil_append,List.cons_append]
 gi_wp2_with (refine ⟨trivial, ?_⟩; gi_at_call 19; refine ((callsIn_wide.2 HIt.out)).mono ?_; rintro e1 W1 ⟨A,n,c,rfl,hn,own,hb⟩; have HOw:=Lib.hid (And.intro hn (And.intro own hb)); clear hn own hb)
 obtain rfl:=HOw.out.1
 have HJ1:=Lib.hid (HJ0.out HJs.out HOw.out.2.2)
 have HS1 : Hid (KeepS b W1 W1 (fun g=>g = b1 + 1 ∨ g = b1 + 1 + 1 ∨ ∃ a,A = some a ∧ g = a.block)):=Lib.hid (KeepS.start ((HOw.out.2.2.cell (p:=⟨b,0,none⟩) HBL.out.1).trans HN.out) (fun g hg=>by
  rcases hg with rfl | rfl | ⟨a,ha,rfl⟩
  ·exact ⟨by omega,by omega,by omega,cells_of_cell ((HOw.out.2.2.cell (p:=⟨b1 + 1,0,none⟩) (by have:=HBL.out.2; simp only; omega)).trans HC2.out)⟩
  ·exact ⟨by omega,by omega,by omega,cells_of_cell ((HOw.out.2.2.cell (p:=⟨b1 + 1 + 1,0,none⟩) HBL.out.2).trans HC3.out)⟩
  ·rcases HOw.out.2.1.2 with ⟨h,_⟩ | ⟨g,cap,cur,h,hg,hgb,_⟩
   ·injection h with h; rw [h] at ha; cases ha
   ·injection h with h; rw [h] at ha; injection ha with ha; subst ha
    have:=HBL.out.2
    exact ⟨by simp only; omega,by simp only; omega,by simp only; omega,_,hgb,rfl⟩))
 have HC2' : Hid (W1.cell? ⟨b1 + 1,0,none⟩ = some (.string ⟨f.toArray⟩)):=Lib.hid ((HOw.out.2.2.cell (p:=⟨b1 + 1,0,none⟩) (by have:=HBL.out.2; simp only; omega)).trans HC2.out)
 have HC3' : Hid (W1.cell? ⟨b1 + 1 + 1,0,none⟩ = some (.string ⟨e.toArray⟩)):=Lib.hid ((HOw.out.2.2.cell (p:=⟨b1 + 1 + 1,0,none⟩) HBL.out.2).trans HC3.out)
 have HBL1 : Hid (b < W1.heap.size ∧ b1 + 1 + 1 < W1.heap.size):=Lib.hid ⟨Nat.lt_of_lt_of_le HBL.out.1 HOw.out.2.2.size,Nat.lt_of_lt_of_le HBL.out.2 HOw.out.2.2.size⟩
 have HRd : Hid (Reads W1 W1.heap.size 2 A L.length (icells L)):=Lib.hid (Reads.of_own HOw.out.2.1)
 have hL9 : (L.length : Int) ≤ 20000:=by omega
 clear HOw HC2 HC3 HN HBL HIt HJs cv hlt hb1 hLc
 gi_wp2
 refine wpIn_loop_ghost_k (fun k a wr => ∀ Φ : Act → Prop,(∀ (s4 s5 s6 s7 s11 s12 s13 s14 s15 s16 s17 s18 s19 s20 s21 s22 s23 s24 s25 s26 s27 s28 s29 s30 s31 s32 : Value) (i : Nat) (pre : List Trie.KV),(i + k = L.length ∧ pre = Trie.allIn (L.take i) f e ∧ J pre wr ∧ KeepS b W1 wr (fun g=>g = b1 + 1 ∨ g = b1 + 1 + 1 ∨ ∃ a,A = some a ∧ g = a.block)) → Φ { tmps:=#[.func (.yield l) #[] #[],.pointer (some ⟨b1,0,none⟩),.pointer (some ⟨b1 + 1,0,none⟩),.pointer (some ⟨b1 + 1 + 1,0,none⟩),s4,s5,s6,s7,.slice A L.length c,.int .i64 L.length,.int .i64 (i : Int),s11,s12,s13,s14,s15,s16,s17,s18,s19,s20,s21,s22,s23,s24,s25,s26,s27,s28,s29,s30,s31,s32],defers := [] }) → Φ a) (L.length) ?_ ?_
 ·refine fun Φ hΦ=>hΦ _ _ _ _ _ _ _ _ _ _ _ _ _ _ _ _ _ _ _ _ _ _ _ _ _ _ (0) ([]) ?_
  exact ⟨by omega,rfl,HJ1.out,HS1.out⟩
 ·intro k1 a1 wr1 hI1 J1 K1 hJ1 hK1
  refine hI1 (fun a=>Code.wpIn _ _ _ _ _ a _) ?_
  clear hI1 a1
  intro s0 s1 s2 s3 s4 s5 s6 s7 s8 s9 s10 s11 s12 s13 s14 s15 s16 s17 s18 s19 s20 s21 s22 s23 s24 s25 i pre hrel
  show Code.wpIn _ _ _ _ _ _ _
  clear HJ1 HS1
  obtain ⟨h1,h2,hj,hs⟩:=hrel
  have HE:=Lib.hid (And.intro h1 (And.intro h2 (And.intro hj hs)))
  clear h1 h2 hj hs
  by_cases hi : i < L.length
  ·obtain ⟨ad,off,rfl,hbl,hcell⟩:=item_cells HRd.out hi
   obtain ⟨q0,q1⟩:=hcell _ (Below.refl _ _)
   rw [← HE.out.2.2.2.cell (p:=⟨ad,off + i * 2,none⟩) (.inr (.inr ⟨_,rfl,rfl⟩))] at q0
   rw [← HE.out.2.2.2.cell (p:=⟨ad,off + i * 2 + 1,none⟩) (.inr (.inr ⟨_,rfl,rfl⟩))] at q1
   have c2:=(HE.out.2.2.2.cell (p:=⟨b1 + 1,0,none⟩) (.inl rfl)).trans HC2'.out
   have c3:=(HE.out.2.2.2.cell (p:=⟨b1 + 1 + 1,0,none⟩) (.inr (.inl rfl))).trans HC3'.out
   have hi1 : (i : Int) < L.length:=by omega
   have hi0 : (0 : Int) ≤ i:=by omega
   have hlt : b < wr1.heap.size:=Nat.lt_of_lt_of_le HBL1.out.1 HE.out.2.2.2.size
   have a2 : ∀ o : Obj,(wr1.alloc o).cell? ⟨b1 + 1,0,none⟩ = some (.string ⟨f.toArray⟩):=fun o=>((HE.out.2.2.2.alloc hlt o).cell (p:=⟨b1 + 1,0,none⟩) (.inl rfl)).trans HC2'.out
   have a3 : ∀ o : Obj,(wr1.alloc o).cell? ⟨b1 + 1 + 1,0,none⟩ = some (.string ⟨e.toArray⟩):=fun o=>((HE.out.2.2.2.alloc hlt o).cell (p:=⟨b1 + 1 + 1,0,none⟩) (.inr (.inl rfl))).trans HC3'.out
   have HAl : Hid (∀ o : Obj,J pre (wr1.alloc o) ∧ KeepS b W1 (wr1.alloc o) (fun g=>g = b1 + 1 ∨ g = b1 + 1 + 1 ∨ ∃ a,some (⟨ad,off,none⟩ : Addr) = some a ∧ g = a.block)):=Lib.hid (fun o=>⟨HJ0.out HE.out.2.2.1 ((Below.refl _ _).alloc (Nat.le_refl _) _),HE.out.2.2.2.alloc hlt o⟩)
   have HSn : Hid (Trie.allIn (L.take (i + 1)) f e = if Trie.inK f e L[i].1 = true then pre ++ [L[i]] else pre):=Lib.hid (by
    rw [List.take_succ_eq_append_getElem hi,allIn_snoc,← HE.out.2.1])
   have HSt : Hid (e ≠ [] → Op.bytesLess L[i].1 e = false → Trie.allIn L f e = pre):=Lib.hid (fun h1 h2=>(allIn_stop HR.out f e h1 i hi h2).trans HE.out.2.1.symm)
   have HPf : Hid (Trie.inK f e L[i].1 = true → (pre ++ [L[i]]) <+: Trie.allIn L f e):=Lib.hid (fun h=>by
    have:=allIn_take_le L f e (i + 1)
    rwa [HSn.out,if_pos h] at this)
   clear hcell c2 c3 hlt hbl
   generalize L[i] = x at *
   obtain ⟨ky,vl⟩:=x
   simp only at q0 q1 HSn HSt HPf
   cases k4 : Op.bytesLess ky f with
   | true =>
    have hin : Trie.inK f e ky = false:=by unfold Trie.inK; simp [k4]
    rw [hin] at HSn
    clear hin HY
    gi_wp2
    refine Handed.intro (L.length - (i + 1)) ?_ (hJ1 _ _ _ (fun Φ hΦ=>hΦ _ _ _ _ _ _ _ _ _ _ _ _ _ _ _ _ _ _ _ _ _ _ _ _ _ _ (i + 1) (pre) ?_))
    ·have:=HE.out.1; omega
    ·exact ⟨by have:=HE.out.1; omega,by rw [HSn.out]; rfl,(HAl.out _).1,(HAl.out _).2⟩
   | false =>
    by_cases k5 : e = []
    ·subst k5
     have hin : Trie.inK f [] ky = true:=by unfold Trie.inK; simp [k4]
     rw [hin,if_pos rfl] at HSn
     have HPf2:=Lib.hid (HPf.out hin)
     have hlen:=HPf2.out.length_le
     rw [List.length_append] at hlen
     obtain ⟨fn,tm,asg,bd,hy,hRd⟩:=HY.out pre (ky,vl) _ (HAl.out (.cells #[.string ⟨ky.toArray⟩,.string ⟨vl.toArray⟩] 77)).1 (Nat.lt_of_lt_of_le (by simp) hlen)
     unfold kvA at hy
     dsimp only at hy
     have HRd2:=Lib.hid hRd
     clear hRd hin hlen HPf
     gi_wp2
     refine HRd2.out.mono ?_
     rintro q W3 (⟨rfl,hJ3,hk3⟩ | ⟨rfl,hJx3⟩)
     ·have O3:=Lib.hid (And.intro hJ3 ((HAl.out _).2.kp hk3))
      clear hJ3 hk3 hy HRd2
      gi_wp2
      refine Handed.intro (L.length - (i + 1)) ?_ (hJ1 _ _ _ (fun Φ hΦ=>hΦ _ _ _ _ _ _ _ _ _ _ _ _ _ _ _ _ _ _ _ _ _ _ _ _ _ _ (i + 1) (pre ++ [(ky,vl)]) ?_))
      ·have:=HE.out.1; omega
      ·exact ⟨by have:=HE.out.1; omega,HSn.out.symm,O3.out.1,O3.out.2⟩
     ·have O3:=Lib.hid hJx3
      clear hJx3 hy HRd2
      gi_wp2
      refine bodyPost_ret (results_none rfl _ _ _) rfl ?_
      exact HP.out _ ⟨⟨_,rfl⟩,.inr ⟨_,HPf2.out,O3.out⟩⟩
    ·have ne1 : (e.toArray = #[]) = False:=by simp [k5]
     have ne2 : e.isEmpty = false:=by simp [k5]
     cases k6 : Op.bytesLess ky e with
     | true =>
      have hin : Trie.inK f e ky = true:=by unfold Trie.inK; simp [k4,k6]
      clear k5
      rw [hin,if_pos rfl] at HSn
      have HPf2:=Lib.hid (HPf.out hin)
      have hlen:=HPf2.out.length_le
      rw [List.length_append] at hlen
      obtain ⟨fn,tm,asg,bd,hy,hRd⟩:=HY.out pre (ky,vl) _ (HAl.out (.cells #[.string ⟨ky.toArray⟩,.string ⟨vl.toArray⟩] 77)).1 (Nat.lt_of_lt_of_le (by simp) hlen)
      unfold kvA at hy
      dsimp only at hy
      have HRd2:=Lib.hid hRd
      clear hRd hin hlen HPf
      gi_wp2
      refine HRd2.out.mono ?_
      rintro q W3 (⟨rfl,hJ3,hk3⟩ | ⟨rfl,hJx3⟩)
      ·have O3:=Lib.hid (And.intro hJ3 ((HAl.out _).2.kp hk3))
       clear hJ3 hk3 hy HRd2
       gi_wp2
       refine Handed.intro (L.length - (i + 1)) ?_ (hJ1 _ _ _ (fun Φ hΦ=>hΦ _ _ _ _ _ _ _ _ _ _ _ _ _ _ _ _ _ _ _ _ _ _ _ _ _ _ (i + 1) (pre ++ [(ky,vl)]) ?_))
       ·have:=HE.out.1; omega
       ·exact ⟨by have:=HE.out.1; omega,HSn.out.symm,O3.out.1,O3.out.2⟩
      ·have O3:=Lib.hid hJx3
       clear hJx3 hy HRd2
       gi_wp2
       refine bodyPost_ret (results_none rfl _ _ _) rfl ?_
       exact HP.out _ ⟨⟨_,rfl⟩,.inr ⟨_,HPf2.out,O3.out⟩⟩
     | false =>
      have HF:=Lib.hid (HSt.out k5 k6)
      clear k5 HY
      gi_wp2
      refine ⟨fun _ h=>(by cases h), ?_⟩
      gi_wp2
      refine bodyPost_ret (results_none rfl _ _ _) rfl ?_
      exact HP.out _ ⟨⟨_,rfl⟩,.inl (by rw [HF.out]; exact (HAl.out _).1)⟩
  ·have hi1 : ((i : Int) < L.length) = False:=by simp; omega
   have HF : Hid (Trie.allIn L f e = pre):=Lib.hid (by rw [HE.out.2.1,List.take_of_length_le (by omega)])
   clear HY
   gi_wp2
   go_end0
   exact HP.out _ ⟨⟨_,rfl⟩,.inl (by rw [HF.out]; exact HE.out.2.2.1)⟩
def RangeEnd (w : World) (r : List Trie.KV × List UInt8) (cd : Nat) (e : Ending) (w' : World) : Prop :=
 ∃ v,e = .returned (.tuple #[v,.string ⟨r.2.toArray⟩,.int .i64 (cd : Int)]) ∧ w'.ownsRow w.heap.size 77 2 v r.1.length (icells r.1) ∧ Below w.heap.size w w'
theorem below_keeps {B : Nat} {W W' : World} (h : Below W.heap.size W W') : KeepsFrom B W W':=⟨h.size,fun k o _ hk _=>(h.block k (Array.getElem?_eq_some_iff.1 hk).1).trans hk⟩
theorem below_kp {b : Nat} {W W' : World} (hb : b < W.heap.size) (h : Below W.heap.size W W') : KpI b W W':=by
 refine ⟨h.size,fun g hs => ?_⟩
 obtain ⟨a1,a2,a3,⟨o,a4,a5⟩,a6⟩:=hs
 have hg:=(Array.getElem?_eq_some_iff.1 a4).1
 refine ⟨h.block g hg,fun o2 n c => ?_⟩
 rw [cell_of_heap (W:=W) (h.block b hb)]
 exact a6 o2 n c
def RgI (w : World) (b m : Nat) (pre : List Trie.KV) (W : World) : Prop :=
 ((∃ v,Boxed W b 24 v ∧ W.ownsRow w.heap.size 77 2 v pre.length (icells pre) ∧ True) ∧ Boxed W (b - 1) 3 (.int .i64 (m : Int)) ∧ Boxed W (b + 1) 9 (.string ⟨#[]⟩) ∧ Boxed W (b + 2) 31 (.int .i64 0) ∧ pre.length ≤ m) ∧ Below w.heap.size w W
def RgX (w : World) (b m : Nat) (c : Code) (pre : List Trie.KV) (W : World) : Prop :=
 ((∃ v,Boxed W b 24 v ∧ W.ownsRow w.heap.size 77 2 v (pre.length - 1) (icells pre.dropLast) ∧ True) ∧ Boxed W (b + 1) 9 (.string ⟨(Trie.behindW (pre.dropLast.getD (m - 1) ([], [])).1).toArray⟩) ∧ Boxed W (b + 2) 31 (.int .i64 0) ∧ (c = .ret ∧ pre.length = m + 1)) ∧ Below w.heap.size w W
theorem rgI_own (w : World) (b m B : Nat) (hB : w.heap.size ≤ B) : OwnFrom B (RgI w b m) :=
 OwnFrom.and (OwnFrom.and (Own.from (holdsRow_own w.heap.size b 24 77 2 (fun pre : List Trie.KV=>pre.length) (fun pre=>icells pre) (fun _ _=>True)) _) (OwnFrom.and (Own.from (boxed_own _ _ _) _) (OwnFrom.and (Own.from (boxed_own _ _ _) _) (OwnFrom.and (Own.from (boxed_own _ _ _) _) (ownFrom_pure _ _))))) (ownFrom_below (Nat.le_refl _) hB)
theorem rgX_own (w : World) (b m B : Nat) (hB : w.heap.size ≤ B) (c : Code) : OwnFrom B (RgX w b m c) :=
 OwnFrom.and (OwnFrom.and (Own.from (holdsRow_own w.heap.size b 24 77 2 (fun pre : List Trie.KV=>pre.length - 1) (fun pre=>icells pre.dropLast) (fun _ _=>True)) _) (OwnFrom.and (Own.from (boxed_own _ _ _) _) (OwnFrom.and (Own.from (boxed_own _ _ _) _) (ownFrom_pure _ _)))) (ownFrom_below (Nat.le_refl _) hB)
theorem RgI.next {w : World} {b m : Nat} {pre : List Trie.KV} {W W' : World} (h : RgI w b m pre W) (hb : Below W.heap.size W W') : RgI w b m pre W':=by
 obtain ⟨⟨⟨v,h1,h2,_⟩,h3,h4,h5,h6⟩,h7⟩:=h
 have key : ∀ {g : Nat} {t : TypeId} {u : Value},Boxed W g t u → Boxed W' g t u:=fun h=>(hb.block _ h.lt).trans h
 exact ⟨⟨⟨v,key h1,own_below h2 hb,trivial⟩,key h3,key h4,key h5,h6⟩,h7.nxt hb⟩
theorem range_results {W : World} {tmps : Array Value} {b1 b2 b3 : Nat} {v1 v2 v3 : Value} (h8 : tmps[8]? = some (.pointer (some ⟨b1,0,none⟩))) (h9 : tmps[9]? = some (.pointer (some ⟨b2,0,none⟩))) (h10 : tmps[10]? = some (.pointer (some ⟨b3,0,none⟩)))
  (c1 : W.cell? ⟨b1,0,none⟩ = some v1) (c2 : W.cell? ⟨b2,0,none⟩ = some v2) (c3 : W.cell? ⟨b3,0,none⟩ = some v3) (o1 : v1.oneCell' = true) (o2 : v2.oneCell' = true) (o3 : v3.oneCell' = true) :
  (results Tryz.f75 tmps).run Tryz.prog W = .ok (.tuple #[v1,v2,v3]) W:=by
 simp [results,Tryz.f75,go_sem,c1,c2,c3,h8,h9,h10]
end Go.Proofs.YtomnlhbioijfhaaGreatDoor
namespace Go.Proofs.YtomnlhbioijfhaaGreatDoor
open Go.RowKit Go.Instr
attribute [local go_sem] ba_get ByteArray.mk_append_mk
theorem span_upTo (w : World) (nx e : List UInt8) :
  Calls Tryz.prog 35 #[.string ⟨nx.toArray⟩,.string ⟨e.toArray⟩] w fun r w'=>r = .returned (.string ⟨(Trie.upToW nx e).toArray⟩) ∧ w = w':=by
 have HP : Hid (∀ s w',Trie.upToW nx e = s → w = w' → (fun r w'=>r = Ending.returned (.string ⟨(Trie.upToW nx e).toArray⟩) ∧ w = w') (Ending.returned (.string ⟨s.toArray⟩)) w'):=Lib.hid (fun s w' h1 h2=>⟨by rw [h1],h2⟩)
 generalize (fun r w'=>r = Ending.returned (.string ⟨(Trie.upToW nx e).toArray⟩) ∧ w = w') = P at HP ⊢
 by_cases hn : nx = []
 ·subst hn
  have HE : Hid (Trie.upToW [] e = e):=Lib.hid rfl
  go_enter Tryz.func35,Tryz.ntmps35
  go_wp2_with fail
  exact HP.out e _ HE.out rfl
 ·have HE : Hid (Trie.upToW nx e = nx):=Lib.hid (by unfold Trie.upToW; rw [if_pos hn])
  have ne1 : (nx.toArray = #[]) = False:=by simp [hn]
  have ne2 : nx.isEmpty = false:=by simp [hn]
  clear hn
  go_enter Tryz.func35,Tryz.ntmps35
  go_wp2_with fail
  exact HP.out nx _ HE.out rfl
theorem decide_beq (a b : List UInt8) : decide (a = b) = (a == b):=by
 by_cases h : a = b
 ·simp [h]
 ·simp [h]
set_option maxHeartbeats 2000000 in
theorem span_goesOn (w : World) (items : List Trie.KV) (A : Option Addr) (c : Nat) (HR : Reads w w.heap.size 2 A items.length (icells items)) (nx e : List UInt8) (NV : Value) (most : Nat) (h1 : 1 ≤ most) (h2 : most ≤ 16) (h1' : NV.oneCell' = true) (hil : items.length ≤ 100000) :
  Calls Tryz.prog 34 #[.agg #[.slice A items.length c,.string ⟨nx.toArray⟩,NV],.string ⟨e.toArray⟩,.int .i64 (most : Int)] w (Ret w (.bool (Trie.goesOnW items nx e most))):=by
 have HP : Hid (∀ r w',Trie.goesOnW items nx e most = r → Below w.heap.size w w' → Ret w (.bool (Trie.goesOnW items nx e most)) (Ending.returned (.bool r)) w'):=Lib.hid (fun r W' a1 a2=>⟨by rw [a1],a2⟩)
 have HG : Hid (Trie.goesOnW items nx e most = if most < items.length then false
 else if nx = [] then true
 else if items.length ≠ most ∨ (e ≠ [] ∧ Op.bytesLess nx e = false) then false
 else decide (nx = Trie.behindW (items.getD (most - 1) ([], [])).1)):=Lib.hid rfl
 generalize Ret w (.bool (Trie.goesOnW items nx e most)) = P at HP ⊢
 generalize Trie.goesOnW items nx e most = G at *
 by_cases k1 : most < items.length
 ·rw [if_pos k1] at HG
  have kI : (most : Int) < items.length:=by omega
  clear HR
  go_enter Tryz.func34,Tryz.ntmps34
  go_upto_region 1 with fail
  obtain ⟨nb,hnb⟩ : ∃ nb,w.heap.size = nb:=⟨_,rfl⟩
  have hb0 : Hid (Blk (w.alloc (.cells #[.slice A items.length c,.string ⟨nx.toArray⟩,NV] 27)) nb 27 #[.slice A items.length c,.string ⟨nx.toArray⟩,NV] ∧ Below w.heap.size w (w.alloc (.cells #[.slice A items.length c,.string ⟨nx.toArray⟩,NV] 27))):=Lib.hid (by subst hnb; exact ⟨Blk.new _ _ _,by go_grown⟩)
  try rw [hnb]
  generalize w.alloc (.cells #[.slice A items.length c,.string ⟨nx.toArray⟩,NV] 27) = W0 at hb0 ⊢
  clear hnb
  have c0 : W0.cell? ⟨nb,0,none⟩ = some (.slice A items.length c):=hb0.out.1.cell 0
  have c1 : W0.cell? ⟨nb,1,none⟩ = some (.string ⟨nx.toArray⟩):=hb0.out.1.cell 1
  go_wp2_with fail
  exact HP.out false _ HG.out hb0.out.2
 rw [if_neg k1] at HG
 have kI : ((most : Int) < items.length) = False:=by simp; omega
 by_cases k2 : nx = []
 ·subst k2
  rw [if_pos rfl] at HG
  clear HR
  go_enter Tryz.func34,Tryz.ntmps34
  go_upto_region 1 with fail
  obtain ⟨nb,hnb⟩ : ∃ nb,w.heap.size = nb:=⟨_,rfl⟩
  have hb0 : Hid (Blk (w.alloc (.cells #[.slice A items.length c,.string ⟨#[]⟩,NV] 27)) nb 27 #[.slice A items.length c,.string ⟨#[]⟩,NV] ∧ Below w.heap.size w (w.alloc (.cells #[.slice A items.length c,.string ⟨#[]⟩,NV] 27))):=Lib.hid (by subst hnb; exact ⟨Blk.new _ _ _,by go_grown⟩)
  try rw [hnb]
  generalize w.alloc (.cells #[.slice A items.length c,.string ⟨#[]⟩,NV] 27) = W0 at hb0 ⊢
  clear hnb
  have c0 : W0.cell? ⟨nb,0,none⟩ = some (.slice A items.length c):=hb0.out.1.cell 0
  have c1 : W0.cell? ⟨nb,1,none⟩ = some (.string ⟨#[]⟩):=hb0.out.1.cell 1
  go_wp2_with fail
  exact HP.out true _ HG.out hb0.out.2
 rw [if_neg k2] at HG
 have ne1 : (nx.toArray = #[]) = False:=by simp [k2]
 have ne2 : nx.isEmpty = false:=by simp [k2]
 clear k2
 by_cases k3 : items.length = most
 ·have kJ : ((items.length : Int) != (most : Int)) = false:=by simp; omega
  have HBe : Hid (∀ W,Calls Tryz.prog 77 #[.string ⟨(items.getD (most - 1) ([], [])).1.toArray⟩] W (Ret W (.string ⟨(Trie.behindW (items.getD (most - 1) ([], [])).1).toArray⟩))):=Lib.hid (fun W=>scan_Behind W _)
  obtain ⟨m,hm⟩ : ∃ m,most = m + 1:=⟨most - 1,by omega⟩
  have hmi : m < items.length:=by omega
  obtain ⟨ad,off,rfl,hbl,hcell⟩:=item_cells HR hmi
  have eg : items.getD (most - 1) ([], []) = items[m]:=by rw [hm,Nat.add_sub_cancel,List.getD_eq_getElem?_getD,List.getElem?_eq_getElem hmi]; rfl
  rw [eg] at HG HBe
  have HK : Hid (∀ W,Below w.heap.size w W → W.cell? ⟨ad,off + m * 2,none⟩ = some (.string ⟨items[m].1.toArray⟩)):=Lib.hid (fun W hW=>(hcell W hW).1)
  generalize items[m].1 = ky at *
  have em : ((most : Int) - 1) = (m : Int):=by omega
  have hm0 : (0 : Int) ≤ m:=by omega
  have hw : IntKind.i64.wrap ((most : Int) - 1) = (m : Int):=by rw [em]; exact IntWalk.i64_in _ (by constructor <;> omega)
  clear em
  have hm1 : (m : Int) < items.length:=by omega
  generalize Trie.behindW ky = bk at *
  have k3':=k3
  have HK3:=Lib.hid k3'
  by_cases k4 : e = []
  ·subst k4
   rw [if_neg (by simp [k3])] at HG
   clear HR hcell eg k3 k3' hmi hm
   go_enter Tryz.func34,Tryz.ntmps34
   go_upto_region 1 with fail
   obtain ⟨nb,hnb⟩ : ∃ nb,w.heap.size = nb:=⟨_,rfl⟩
   have hb0 : Hid (Blk (w.alloc (.cells #[.slice (some ⟨ad,off,none⟩) items.length c,.string ⟨nx.toArray⟩,NV] 27)) nb 27 #[.slice (some ⟨ad,off,none⟩) items.length c,.string ⟨nx.toArray⟩,NV] ∧ Below w.heap.size w (w.alloc (.cells #[.slice (some ⟨ad,off,none⟩) items.length c,.string ⟨nx.toArray⟩,NV] 27))):=Lib.hid (by subst hnb; exact ⟨Blk.new _ _ _,by go_grown⟩)
   try rw [hnb]
   generalize w.alloc (.cells #[.slice (some ⟨ad,off,none⟩) items.length c,.string ⟨nx.toArray⟩,NV] 27) = W0 at hb0 ⊢
   clear hnb
   have c0 : W0.cell? ⟨nb,0,none⟩ = some (.slice (some ⟨ad,off,none⟩) items.length c):=hb0.out.1.cell 0
   have c1 : W0.cell? ⟨nb,1,none⟩ = some (.string ⟨nx.toArray⟩):=hb0.out.1.cell 1
   go_upto_region 7 with fail
   have q1:=HK.out W0 hb0.out.2
   go_region_held3 (fun w'=>w'.cell? ⟨nb,0,none⟩ = some (.slice (some ⟨ad,off,none⟩) items.length c) ∧ w'.cell? ⟨nb,1,none⟩ = some (.string ⟨nx.toArray⟩) ∧ w'.cell? ⟨ad,off + m * 2,none⟩ = some (.string ⟨ky.toArray⟩)) (first | go_keep | (refine ⟨?_, ?_, ?_⟩ <;> assumption)) ((go_at_call 77; refine (HBe.out _).mono ?_; rintro r w1 ⟨rfl,hb⟩; have B1 : Below W0.heap.size W0 w1:=(by first | exact hb | exact hb.start); have d0:=(B1.cell (p:=⟨nb,0,none⟩) hb0.out.1.lt).trans c0; have d1:=(B1.cell (p:=⟨nb,1,none⟩) hb0.out.1.lt).trans c1; have d2:=HK.out w1 (hb0.out.2.nxt B1); clear hb))
   go_wp2_with fail
   exact HP.out _ _ (HG.out.trans (decide_beq nx bk)) (hb0.out.2.nxt B1)
  ·have ne3 : (e.toArray = #[]) = False:=by simp [k4]
   have ne4 : e.isEmpty = false:=by simp [k4]
   cases k5 : Op.bytesLess nx e with
   | false =>
    rw [if_pos (.inr ⟨k4,k5⟩)] at HG
    clear HR hcell eg k4 k3 k3' hmi hm
    go_enter Tryz.func34,Tryz.ntmps34
    go_upto_region 1 with fail
    obtain ⟨nb,hnb⟩ : ∃ nb,w.heap.size = nb:=⟨_,rfl⟩
    have hb0 : Hid (Blk (w.alloc (.cells #[.slice (some ⟨ad,off,none⟩) items.length c,.string ⟨nx.toArray⟩,NV] 27)) nb 27 #[.slice (some ⟨ad,off,none⟩) items.length c,.string ⟨nx.toArray⟩,NV] ∧ Below w.heap.size w (w.alloc (.cells #[.slice (some ⟨ad,off,none⟩) items.length c,.string ⟨nx.toArray⟩,NV] 27))):=Lib.hid (by subst hnb; exact ⟨Blk.new _ _ _,by go_grown⟩)
    try rw [hnb]
    generalize w.alloc (.cells #[.slice (some ⟨ad,off,none⟩) items.length c,.string ⟨nx.toArray⟩,NV] 27) = W0 at hb0 ⊢
    clear hnb
    have c0 : W0.cell? ⟨nb,0,none⟩ = some (.slice (some ⟨ad,off,none⟩) items.length c):=hb0.out.1.cell 0
    have c1 : W0.cell? ⟨nb,1,none⟩ = some (.string ⟨nx.toArray⟩):=hb0.out.1.cell 1
    go_wp2_with fail
    exact HP.out false _ HG.out hb0.out.2
   | true =>
    rw [if_neg (by simp [k3,k5])] at HG
    clear HR hcell eg k4 k3 k3' hmi hm
    go_enter Tryz.func34,Tryz.ntmps34
    go_upto_region 1 with fail
    obtain ⟨nb,hnb⟩ : ∃ nb,w.heap.size = nb:=⟨_,rfl⟩
    have hb0 : Hid (Blk (w.alloc (.cells #[.slice (some ⟨ad,off,none⟩) items.length c,.string ⟨nx.toArray⟩,NV] 27)) nb 27 #[.slice (some ⟨ad,off,none⟩) items.length c,.string ⟨nx.toArray⟩,NV] ∧ Below w.heap.size w (w.alloc (.cells #[.slice (some ⟨ad,off,none⟩) items.length c,.string ⟨nx.toArray⟩,NV] 27))):=Lib.hid (by subst hnb; exact ⟨Blk.new _ _ _,by go_grown⟩)
    try rw [hnb]
    generalize w.alloc (.cells #[.slice (some ⟨ad,off,none⟩) items.length c,.string ⟨nx.toArray⟩,NV] 27) = W0 at hb0 ⊢
    clear hnb
    have c0 : W0.cell? ⟨nb,0,none⟩ = some (.slice (some ⟨ad,off,none⟩) items.length c):=hb0.out.1.cell 0
    have c1 : W0.cell? ⟨nb,1,none⟩ = some (.string ⟨nx.toArray⟩):=hb0.out.1.cell 1
    go_upto_region 7 with fail
    have q1:=HK.out W0 hb0.out.2
    go_region_held3 (fun w'=>w'.cell? ⟨nb,0,none⟩ = some (.slice (some ⟨ad,off,none⟩) items.length c) ∧ w'.cell? ⟨nb,1,none⟩ = some (.string ⟨nx.toArray⟩) ∧ w'.cell? ⟨ad,off + m * 2,none⟩ = some (.string ⟨ky.toArray⟩)) (first | go_keep | (refine ⟨?_, ?_, ?_⟩ <;> assumption)) ((go_at_call 77; refine (HBe.out _).mono ?_; rintro r w1 ⟨rfl,hb⟩; have B1 : Below W0.heap.size W0 w1:=(by first | exact hb | exact hb.start); have d0:=(B1.cell (p:=⟨nb,0,none⟩) hb0.out.1.lt).trans c0; have d1:=(B1.cell (p:=⟨nb,1,none⟩) hb0.out.1.lt).trans c1; have d2:=HK.out w1 (hb0.out.2.nxt B1); clear hb))
    go_wp2_with fail
    exact HP.out _ _ (HG.out.trans (decide_beq nx bk)) (hb0.out.2.nxt B1)
 ·rw [if_pos (.inl k3)] at HG
  have kJ : ((items.length : Int) != (most : Int)) = true:=by simp; omega
  clear HR k3
  go_enter Tryz.func34,Tryz.ntmps34
  go_upto_region 1 with fail
  obtain ⟨nb,hnb⟩ : ∃ nb,w.heap.size = nb:=⟨_,rfl⟩
  have hb0 : Hid (Blk (w.alloc (.cells #[.slice A items.length c,.string ⟨nx.toArray⟩,NV] 27)) nb 27 #[.slice A items.length c,.string ⟨nx.toArray⟩,NV] ∧ Below w.heap.size w (w.alloc (.cells #[.slice A items.length c,.string ⟨nx.toArray⟩,NV] 27))):=Lib.hid (by subst hnb; exact ⟨Blk.new _ _ _,by go_grown⟩)
  try rw [hnb]
  generalize w.alloc (.cells #[.slice A items.length c,.string ⟨nx.toArray⟩,NV] 27) = W0 at hb0 ⊢
  clear hnb
  have c0 : W0.cell? ⟨nb,0,none⟩ = some (.slice A items.length c):=hb0.out.1.cell 0
  have c1 : W0.cell? ⟨nb,1,none⟩ = some (.string ⟨nx.toArray⟩):=hb0.out.1.cell 1
  go_wp2_with fail
  exact HP.out false _ HG.out hb0.out.2
end Go.Proofs.YtomnlhbioijfhaaGreatDoor
