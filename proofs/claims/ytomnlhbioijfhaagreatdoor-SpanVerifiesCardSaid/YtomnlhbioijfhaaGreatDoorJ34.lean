import Derived.Test.YtomnlhbioijfhaaGreatDoorJ33
import Derived.Test.YtomnlhbioijfhaaGreatDoorJ32
import Derived.Test.YtomnlhbioijfhaaGreatDoorJ12
import Derived.Test.YtomnlhbioijfhaaGreatDoorJ22
import Derived.Test.YtomnlhbioijfhaaGreatDoorJ27
import Derived.Test.YtomnlhbioijfhaaGreatDoorJ31
import Derived.Test.YtomnlhbioijfhaaGreatDoorJ29
import Derived.Test.YtomnlhbioijfhaaGreatDoorJ19
import Derived.Great.BuildSlice
import Derived.Test.YtomnlhbioijfhaaGreatDoorJ11
import Derived.Test.YtomnlhbioijfhaaGreatDoorJ07
import Derived.Test.YtomnlhbioijfhaaGreatDoorJ01
import Derived.OneCell
import Derived.Test.YtomnlhbioijfhaaGreatDoorJ30
import Derived.Test.YtomnlhbioijfhaaGreatDoorJ20
import Derived.Test.YtomnlhbioijfhaaGreatDoorJ21
set_option linter.unusedSimpArgs false
set_option linter.unusedVariables false
namespace Go.Proofs.YtomnlhbioijfhaaGreatDoor
open Go.RowKit Go.Instr
attribute [local go_sem] ba_get ByteArray.mk_append_mk
attribute [local go_sem ↓] Go.wp_at_zero Go.wp_at_succ
def PageEnd (w : World) (r : List Trie.KV × List UInt8 × List (List UInt8)) (cd : Nat) (e : Ending) (w' : World) : Prop :=
 ∃ A c B d,e = .returned (.tuple #[.agg #[.slice A r.1.length c,.string ⟨r.2.1.toArray⟩,.slice B r.2.2.length d],.int .i64 (cd : Int)]) ∧ w'.ownsRow w.heap.size 77 2 (.slice A r.1.length c) r.1.length (icells r.1) ∧ r.1.length ≤ c ∧ w'.ownsRow w.heap.size 9 1 (.slice B r.2.2.length d) r.2.2.length (strv r.2.2) ∧ r.2.2.length ≤ d ∧ Below w.heap.size w w'
theorem info_page : (Tryz.prog.info? 27).map (·.size) = some 3:=by kernel_rfl
theorem load_page {W : World} {b : Nat} {cs : List Value} (h : Blk W b 27 cs.toArray) (h3 : cs.length = 3) : (loadVar 27 ⟨b,0,none⟩).run Tryz.prog W = .ok (.agg cs.toArray) W :=
 run_loadVar_mid (P:=Tryz.prog) W b 0 27 cs _ (Blk.range0 h) Tryz.underlying27 rfl (by rw [h3]; exact info_page)
theorem page_stored {w W : World} {rb : Nat} {a b c : Value} (h : Blk W rb 27 #[a,b,c]) (hB : Below w.heap.size w W) (hr : w.heap.size ≤ rb) (x y z : Value) :
  Blk (((W.setCell ⟨rb,0,none⟩ x).setCell ⟨rb,1,none⟩ y).setCell ⟨rb,2,none⟩ z) rb 27 #[x,y,z] ∧ Below w.heap.size w (((W.setCell ⟨rb,0,none⟩ x).setCell ⟨rb,1,none⟩ y).setCell ⟨rb,2,none⟩ z) :=
 ⟨((h.set_ 0 x).set_ 1 y).set_ 2 z,((hB.setCell (p:=⟨rb,0,none⟩) hr _).setCell (p:=⟨rb,1,none⟩) hr _).setCell (p:=⟨rb,2,none⟩) hr _⟩
theorem own_page {W : World} {rb base n size : Nat} {el : TypeId} {a b c x y z v : Value} {xs : List Value} (h : Blk W rb 27 #[a,b,c]) (own : W.ownsRow base el size v n xs) (hne : el ≠ 27) :
  (((W.setCell ⟨rb,0,none⟩ x).setCell ⟨rb,1,none⟩ y).setCell ⟨rb,2,none⟩ z).ownsRow base el size v n xs:=by
 have h1 : W.grownBy (((W.setCell ⟨rb,0,none⟩ x).setCell ⟨rb,1,none⟩ y).setCell ⟨rb,2,none⟩ z) (some rb):=grown_set1 (grown_set1 (grown_set1 (World.grownBy.refl W (some rb)) 0 x) 1 y) 2 z
 exact own.kept h1 (.inr (own_blk_ne own h hne))
set_option maxRecDepth 100000 in
set_option maxHeartbeats 4000000 in
theorem span_Prove (w : World) (t : Trie.T) (p : Option Addr) (hT : TrieP w t (.pointer p)) (hc : Trie.count t ≤ 20000) (f e : List UInt8) (hf : f.length ≤ 1048576) (he : e.length ≤ 1048576) (m : Nat) (h1 : 1 ≤ m) (h2 : m ≤ 16) :
  Calls Tryz.prog 32 #[.pointer p,.string ⟨f.toArray⟩,.string ⟨e.toArray⟩,.int .i64 (m : Int)] w (PageEnd w ((Trie.pageW (Trie.itemsW t) f e m).1,(Trie.pageW (Trie.itemsW t) f e m).2,Trie.pageN t f e m) 0):=by
 have HP : Hid (∀ l s N A c B d w',Trie.pageW (Trie.itemsW t) f e m = (l,s) → Trie.pageN t f e m = N → w'.ownsRow w.heap.size 77 2 (.slice A l.length c) l.length (icells l) → w'.ownsRow w.heap.size 9 1 (.slice B N.length d) N.length (strv N) → Below w.heap.size w w' → PageEnd w ((Trie.pageW (Trie.itemsW t) f e m).1,(Trie.pageW (Trie.itemsW t) f e m).2,Trie.pageN t f e m) 0 (.returned (.tuple #[.agg #[.slice A l.length c,.string ⟨s.toArray⟩,.slice B N.length d],.int .i64 0])) w'):=Lib.hid (fun l s N A c B d w' e1 e2 h1 h2 h3=>by
  rw [e1,e2]
  obtain ⟨_,_,x1,_,c1,_⟩:=own_form h1
  obtain ⟨_,_,x2,_,c2,_⟩:=own_form h2
  injection x1 with _ _ x1
  injection x2 with _ _ x2
  exact ⟨A,c,B,d,rfl,h1,by simp only; omega,h2,by simp only; omega,h3⟩)
 generalize PageEnd w ((Trie.pageW (Trie.itemsW t) f e m).1,(Trie.pageW (Trie.itemsW t) f e m).2,Trie.pageN t f e m) 0 = P at HP ⊢
 have HR:=Lib.hid (fun W (hW : Below w.heap.size w W)=>scan_Range W t p (hT.next hW) hc f e m h1 h2)
 have HN : Hid (Trie.pageN t f e m = toldW (coverW (Nib.of f) (Nib.of (Trie.upToW (Trie.pageW (Trie.itemsW t) f e m).2 e)) (Trie.upToW (Trie.pageW (Trie.itemsW t) f e m).2 e)) t):=Lib.hid rfl
 have hul : (Trie.upToW (Trie.pageW (Trie.itemsW t) f e m).2 e).length ≤ 1048576:=by
  unfold Trie.upToW
  split
  ·unfold Trie.pageW
   split
   ·simp
   ·have:=Trie.behind_le ((Trie.allIn (Trie.itemsW t) f e).getD (m - 1) ([], [])).1
    simp only; omega
  ·exact he
 have HC:=Lib.hid (fun W (hW : Below w.heap.size w W)=>trie_Cover W t (.pointer p) (hT.next hW) hc f (Trie.upToW (Trie.pageW (Trie.itemsW t) f e m).2 e) hf hul)
 have HU:=Lib.hid (fun W=>span_upTo W (Trie.pageW (Trie.itemsW t) f e m).2 e)
 generalize Trie.pageN t f e m = N at *
 generalize Trie.pageW (Trie.itemsW t) f e m = pg at *
 obtain ⟨l,s⟩:=pg
 simp only at HN HC HU
 generalize Trie.upToW s e = u at *
 rw [← HN.out] at HC
 clear hT hc hf he h1 h2 hul HN
 go_enter Tryz.func32,Tryz.ntmps32
 go_upto_region 1 with fail
 obtain ⟨rb,hrb⟩ : ∃ rb,w.heap.size = rb:=⟨_,rfl⟩
 have b1 : Hid (Blk (w.alloc (.cells #[.slice none 0 0,.string ⟨#[]⟩,.slice none 0 0] 27)) rb 27 #[.slice none 0 0,.string ⟨#[]⟩,.slice none 0 0] ∧ Below w.heap.size w (w.alloc (.cells #[.slice none 0 0,.string ⟨#[]⟩,.slice none 0 0] 27)) ∧ w.heap.size ≤ rb):=Lib.hid (by subst hrb; exact ⟨Blk.new _ _ _,by go_grown,Nat.le_refl _⟩)
 try rw [hrb]
 generalize w.alloc (.cells #[.slice none 0 0,.string ⟨#[]⟩,.slice none 0 0] 27) = W1 at b1 ⊢
 clear hrb
 go_wp2_with fail
 refine (HR.out _ b1.out.2.1).mono ?_
 rintro q w2 ⟨v2,rfl,own2,hb2⟩
 obtain ⟨A2,c2,rfl,_,_,_⟩:=own_form own2
 have HB2:=Lib.hid (b1.out.2.1.nxt hb2)
 have O2:=Lib.hid (own_lower own2 b1.out.2.1.size)
 have HBk2:=Lib.hid (b1.out.1.below hb2 b1.out.1.lt)
 clear own2 hb2 HR
 go_wp2_with fail
 refine (HU.out _).mono ?_
 rintro q w3 ⟨rfl,rfl⟩
 go_wp2_with fail
 refine (HC.out _ HB2.out).mono ?_
 rintro q w4 ⟨B4,n4,c4,rfl,hn4,own4,hb4⟩
 obtain rfl:=hn4
 have O4:=Lib.hid (own_lower own4 HB2.out.size)
 have O24:=Lib.hid (own_below O2.out hb4)
 have F5 : Hid (Live w w4 [(rb,27,#[.slice none 0 0,.string ⟨#[]⟩,.slice none 0 0])]):=Lib.hid (Live.one (HB2.out.nxt hb4) b1.out.2.2 (HBk2.out.below hb4 HBk2.out.lt))
 clear own4 hb4 HC HU
 have k0:=F5.out.cell 0 0 rfl rfl
 have k1:=F5.out.cell 0 1 rfl rfl
 have k2:=F5.out.cell 0 2 rfl rfl
 have f0:=F5.out.frozen 0 0 rfl
 have f1:=F5.out.frozen 0 1 rfl
 have f2:=F5.out.frozen 0 2 rfl
 go_wp2_with fail
 obtain ⟨t1,t2⟩:=page_stored (F5.out.blk 0 rfl) F5.out.b b1.out.2.2 (.slice A2 l.length c2) (.string ⟨s.toArray⟩) (.slice B4 N.length c4)
 refine bodyPost_ret (v:=.tuple #[.agg #[.slice A2 l.length c2,.string ⟨s.toArray⟩,.slice B4 N.length c4],.int .i64 0]) (results_cell2 rfl rfl (load_page t1 rfl) rfl) rfl (HP.out l s N _ _ _ _ _ rfl rfl (own_page (F5.out.blk 0 rfl) O24.out (by decide)) (own_page (F5.out.blk 0 rfl) O4.out (by decide)) t2)
theorem reads_apart {W : World} {B size n rb k : Nat} {A : Option Addr} {xs : List Value} (h : Reads W B size A n xs) (hne : ∀ a,A = some a → rb ≠ a.block) (u : Value) : Reads (W.setCell ⟨rb,k,none⟩ u) B size A n xs:=by
 refine ⟨h.1,fun hn => ?_⟩
 obtain ⟨ad,rfl,hb,hc⟩:=h.2 hn
 refine ⟨ad,rfl,hb,fun j v hv => ?_⟩
 rw [World.cell?_setCell_other W ⟨rb,k,none⟩ (ad.add j) u (fun e=>hne ad rfl (by rw [← block_of_add ad j,← e]))]
 exact hc j v hv
set_option maxHeartbeats 1000000 in
theorem items_Equal (A B : Option Addr) (n m c d : Nat) (xs ys : List Trie.KV) (w : World) (ha : Reads w w.heap.size 2 A n (icells xs)) (hb : Reads w w.heap.size 2 B m (icells ys)) (hn : n ≤ 1048576) (hm : m ≤ 1048576) :
  Calls Tryz.prog 39 #[.slice A n c,.slice B m d] w (Ret w (.bool (decide (xs = ys)))):=by
 have hxl : xs.length = n:=by have:=ha.1; rw [icells_length] at this; omega
 have hyl : ys.length = m:=by have:=hb.1; rw [icells_length] at this; omega
 have HP : Hid (∀ r w',decide (xs = ys) = r → Below w.heap.size w w' → Ret w (.bool (decide (xs = ys))) (Ending.returned (.bool r)) w'):=Lib.hid (fun r W' a1 a2=>⟨by rw [a1],a2⟩)
 generalize Ret w (.bool (decide (xs = ys))) = P at HP ⊢
 obtain rfl:=hxl
 obtain rfl:=hyl
 by_cases hnm : xs.length = ys.length
 ·have hq : ((xs.length : Int) != (ys.length : Int)) = false:=by simp; omega
  have HA:=Lib.hid ha
  have HB:=Lib.hid hb
  have HE:=Lib.hid hnm
  clear ha hb hnm
  go_enter Tryz.func39,Tryz.ntmps39
  go_wp2_with fail
  refine wp_loop_ghost_k (fun k a wr => ∀ Φ : Act → Prop,(∀ (s2 s3 s4 s5 s6 s7 s8 s9 s10 s11 s14 s15 s16 s17 s18 s19 s20 s21 s22 s23 s24 s25 : Value) (i : Nat),(i + k = xs.length ∧ xs.take i = ys.take i ∧ Below w.heap.size w wr) → Φ { tmps:=#[.slice A xs.length c,.slice B ys.length d,s2,s3,s4,s5,s6,s7,s8,s9,s10,s11,.int .i64 xs.length,.int .i64 (i : Int),s14,s15,s16,s17,s18,s19,s20,s21,s22,s23,s24,s25],defers := [] }) → Φ a) (xs.length) ?_ ?_
  ·refine fun Φ hΦ=>hΦ _ _ _ _ _ _ _ _ _ _ _ _ _ _ _ _ _ _ _ _ _ _ (0) ?_
   exact ⟨by omega,by simp,Below.refl _ _⟩
  ·intro k1 a1 wr1 hI1 J1 K1 hJ1 hK1
   refine hI1 (fun a=>Code.wp _ _ _ a _) ?_
   clear hI1 a1
   intro s0 s1 s2 s3 s4 s5 s6 s7 s8 s9 s10 s11 s12 s13 s14 s15 s16 s17 s18 s19 s20 s21 i hrel
   show Code.wp _ _ _ _ _
   obtain ⟨h1,h2,hw⟩:=hrel
   have HI:=Lib.hid (And.intro h1 (And.intro h2 hw))
   clear h1 h2 hw
   by_cases hi : i < xs.length
   ·have hi2 : i < ys.length:=by have:=HE.out; omega
    obtain ⟨b1,o1,rfl,hl1,hc1⟩:=item_cells HA.out hi
    obtain ⟨b2,o2,rfl,hl2,hc2⟩:=item_cells HB.out hi2
    obtain ⟨g1,g2⟩:=hc1 _ HI.out.2.2
    obtain ⟨g3,g4⟩:=hc2 _ HI.out.2.2
    have EQ:=fun w=>it_run w xs[i] ys[i]
    have hi0 : (0 : Int) ≤ i:=by omega
    have hi1 : (i : Int) < xs.length:=by omega
    have hi3 : (i : Int) < ys.length:=by omega
    have HT:=Lib.hid (take_eq_succ' (xs:=xs) (ys:=ys) hi hi2 HI.out.2.1)
    by_cases he : xs[i] = ys[i]
    ·have HT2:=Lib.hid (HT.out.2 he)
     have e2 : (xs[i] == ys[i]) = true:=by simp [he]
     rw [e2] at EQ
     clear hc1 hc2 he e2 HT
     generalize xs[i] = x at *
     generalize ys[i] = y at *
     obtain ⟨x1,x2⟩:=x
     obtain ⟨y1,y2⟩:=y
     simp only at g1 g2 g3 g4 EQ
     go_wp2_with fail
     go_quiet (fail)
     go_wp2_with fail
     refine Handed.intro (xs.length - (i + 1)) ?_ (hJ1 _ _ _ (fun Φ hΦ=>hΦ _ _ _ _ _ _ _ _ _ _ _ _ _ _ _ _ _ _ _ _ _ _ (i + 1) ?_))
     ·have:=HI.out.1; omega
     ·exact ⟨by have:=HI.out.1; omega,HT2.out,below_drewN HI.out.2.2 _⟩
    ·have HF : Hid (decide (xs = ys) = false):=Lib.hid (decide_eq_false (fun e=>he (by subst e; rfl)))
     have e2 : (xs[i] == ys[i]) = false:=by simp [he]
     rw [e2] at EQ
     clear hc1 hc2 he e2 HT
     generalize xs[i] = x at *
     generalize ys[i] = y at *
     obtain ⟨x1,x2⟩:=x
     obtain ⟨y1,y2⟩:=y
     simp only at g1 g2 g3 g4 EQ
     go_wp2_with fail
     go_quiet (fail)
     go_wp2_with fail
     exact HP.out false _ HF.out (below_drewN HI.out.2.2 _)
   ·have hi1 : ((i : Int) < xs.length) = False:=by simp; omega
    have HF : Hid (decide (xs = ys) = true):=Lib.hid (decide_eq_true (by
     have h:=HI.out.2.1
     rwa [List.take_of_length_le (by omega),List.take_of_length_le (by have:=HE.out; omega)] at h))
    go_wp2_with fail
    exact HP.out true _ HF.out HI.out.2.2
 ·have HF : Hid (decide (xs = ys) = false):=Lib.hid (decide_eq_false (fun e=>hnm (by rw [e])))
  have hq : ((xs.length : Int) != (ys.length : Int)) = true:=by simp; omega
  clear ha hb hnm
  go_enter Tryz.func39,Tryz.ntmps39
  go_wp2_with fail
  exact HP.out false _ HF.out (Below.refl _ _)
theorem tx_size (w : World) : (sizeOf 9).run Tryz.prog w = .ok 1 w:=by
 go_simp
 try rfl
theorem tx_elem : Program.elem Tryz.prog 25 = 9:=by kernel_rfl
theorem tx_under : Tryz.prog.underlying 25 = some (.slice (Tryz.prog.elem 25)):=by rw [tx_elem]; exact Tryz.underlying25
theorem tx_cut_from (A : Option Addr) (l : List (List UInt8)) (n c i : Nat) (hn : l.length = n) (hi : i ≤ n) (hc : n ≤ c) :
  ∃ A1 c1,(∀ w,(Instr.sliceAt 25 (.slice A n c) (some (.int .i64 (i : Int))) none none).run Tryz.prog w = .ok (.slice A1 (n - i) c1) w) ∧ n - i ≤ c1 ∧ ∀ w B,Reads w B 1 A n (strv l) → Reads w B 1 A1 (n - i) (strv (l.drop i)):=by
 refine ⟨if c = i then A else A.map (·.add (i * 1)),c - i,fun w => ?_,by omega,fun w B hr => ?_⟩
 ·rw [run_sliceAt_slice _ _ _ _ _ _ tx_under,run_slice_l _ _ _ _ _ tx_under _ _ (by omega) (by omega)]
  rw [tx_elem,tx_size w]
  rfl
 ·have:=hr.cut hi hc
  unfold strv at this ⊢
  rw [Nat.mul_one,← List.map_drop] at this
  rw [Nat.mul_one]
  exact this
def SpI (w0 : World) (bg bl : Nat) (f e : List UInt8) (st : Trie.Gst) (W : World) : Prop :=
 ∃ A n c B m d,Blk W bg 87 #[.string ⟨f.toArray⟩,.string ⟨e.toArray⟩,.string ⟨(Nib.of f).toArray⟩,.string ⟨(Nib.of e).toArray⟩,.slice A n c] ∧ n = st.1.length ∧ W.ownsRow w0.heap.size 77 2 (.slice A n c) n (icells st.1) ∧
  Blk W bl 25 #[.slice B m d] ∧ m = st.2.length ∧ m ≤ d ∧ Reads w0 w0.heap.size 1 B m (strv st.2) ∧ Below w0.heap.size w0 W ∧ w0.heap.size ≤ bg ∧ w0.heap.size ≤ bl
theorem SpI.next {w0 : World} {bg bl : Nat} {f e : List UInt8} {st : Trie.Gst} {W W' : World} (h : SpI w0 bg bl f e st W) (hb : Below W.heap.size W W') : SpI w0 bg bl f e st W':=by
 obtain ⟨A,n,c,B,m,d,h1,h2,h3,h4,h5,h6,h7,h8,h9,h10⟩:=h
 exact ⟨A,n,c,B,m,d,h1.below hb h1.lt,h2,own_below h3 hb,h4.below hb h4.lt,h5,h6,h7,h8.nxt hb,h9,h10⟩
def Kept (W W' : World) : Prop := ∀ g t cs,t ≠ 87 → t ≠ 25 → t ≠ 77 → Blk W g t cs → Blk W' g t cs
theorem Kept.low {W W' : World} (hb : Below W.heap.size W W') : Kept W W':=fun g t cs _ _ _ h=>h.below hb h.lt
theorem Kept.trans {A B C : World} (h : Kept A B) (k : Kept B C) : Kept A C:=fun g t cs a b c x=>k g t cs a b c (h g t cs a b c x)
theorem SpI.low {w0 : World} {bg bl : Nat} {f e : List UInt8} {st : Trie.Gst} {W : World} (h : SpI w0 bg bl f e st W) : Below w0.heap.size w0 W:=by
 obtain ⟨A,n,c,B,m,d,h1,h2,h3,h4,h5,h6,h7,h8,h9,h10⟩:=h
 exact h8
theorem SpI.setl {w0 : World} {bg bl : Nat} {f e : List UInt8} {l : List Trie.KV} {ll left : List (List UInt8)} {W : World} (h : SpI w0 bg bl f e (l,ll) W) {B : Option Addr} {d : Nat} (hd : left.length ≤ d) (hr : Reads w0 w0.heap.size 1 B left.length (strv left)) :
  SpI w0 bg bl f e (l,left) (W.setCell ⟨bl,0,none⟩ (.slice B left.length d)):=by
 obtain ⟨A,n,c,B0,m,d0,h1,h2,h3,h4,h5,h6,h7,h8,h9,h10⟩:=h
 exact ⟨A,n,c,B,left.length,d,h1.far (p:=⟨bl,0,none⟩) (h1.ne_ h4 (by decide)) _,h2,h3.kept (only_setCell (World.grownBy.refl W (some bl)) (.inl rfl) _) (.inr (own_blk_ne h3 h4 (by decide))),
  h4.set_ 0 _,rfl,hd,hr,h8.setCell (p:=⟨bl,0,none⟩) h10 _,h9,h10⟩
theorem SpI.keptl {w0 : World} {bg bl : Nat} {f e : List UInt8} {st : Trie.Gst} {W : World} (h : SpI w0 bg bl f e st W) (v : Value) : Kept W (W.setCell ⟨bl,0,none⟩ v):=by
 obtain ⟨A,n,c,B0,m,d0,h1,h2,h3,h4,h5,h6,h7,h8,h9,h10⟩:=h
 exact fun g t cs _ n2 _ k=>k.far (p:=⟨bl,0,none⟩) (k.ne_ h4 n2) _
theorem kept_push {w0 : World} {bg : Nat} {xs : List Value} {cs0 : Array Value} {W w2 : World} {A : Option Addr} {n c : Nat} (h1 : Blk W bg 87 cs0) (h3 : W.ownsRow w0.heap.size 77 2 (.slice A n c) n xs) (hg : W.grownBy w2 (Value.slice A n c).ownBlock) (v : Value) : Kept W (w2.setCell ⟨bg,4,none⟩ v)  :=fun g t cs n1 _ n3 k=>by
 have hbk:=h1.grown hg (fun e=>own_blk_ne h3 h1 (by decide) e.symm)
 have hk2:=k.grown hg (fun e=>own_blk_ne h3 k n3.symm e.symm)
 exact hk2.far (p:=⟨bg,4,none⟩) (hk2.ne_ hbk n1) _
theorem SpI.push {w0 : World} {bg bl : Nat} {f e : List UInt8} {st : Trie.Gst} {x : Trie.KV} {W w2 : World} {A A2 B : Option Addr} {n c c2 m d : Nat}
  (h1 : Blk W bg 87 #[.string ⟨f.toArray⟩,.string ⟨e.toArray⟩,.string ⟨(Nib.of f).toArray⟩,.string ⟨(Nib.of e).toArray⟩,.slice A n c]) (h2 : n = st.1.length) (h3 : W.ownsRow w0.heap.size 77 2 (.slice A n c) n (icells st.1))
  (h4 : Blk W bl 25 #[.slice B m d]) (h5 : m = st.2.length) (h6 : m ≤ d) (h7 : Reads w0 w0.heap.size 1 B m (strv st.2)) (h9 : w0.heap.size ≤ bg) (h10 : w0.heap.size ≤ bl)
  (hown : w2.ownsRow w0.heap.size 77 2 (.slice A2 (n + 1) c2) (n + 1) (icells st.1 ++ [.string ⟨x.1.toArray⟩,.string ⟨x.2.toArray⟩])) (hb : Below w0.heap.size w0 w2) (hg : W.grownBy w2 (Value.slice A n c).ownBlock) :
  SpI w0 bg bl f e (st.1 ++ [x],st.2) (w2.setCell ⟨bg,4,none⟩ (.slice A2 (n + 1) c2)):=by
 have hbk:=h1.grown hg (fun e=>own_blk_ne h3 h1 (by decide) e.symm)
 have hbl:=h4.grown hg (fun e=>own_blk_ne h3 h4 (by decide) e.symm)
 refine ⟨A2,n + 1,c2,B,m,d,hbk.set_ 4 _,by simp only [List.length_append,List.length_cons,List.length_nil]; omega, ?_,hbl.far (p:=⟨bg,4,none⟩) (hbl.ne_ hbk (by decide)) _,h5,h6,h7,hb.setCell (p:=⟨bg,4,none⟩) h9 _,h9,h10⟩
 rw [icells_snoc]
 exact hown.kept (only_setCell (World.grownBy.refl w2 (some bg)) (.inl rfl) _) (.inr (own_blk_ne hown hbk (by decide)))
theorem span_take_nil (w0 W : World) (bg bl : Nat) (f e : List UInt8) (l : List Trie.KV) (hI : SpI w0 bg bl f e (l, []) W) :
  Calls Tryz.prog 37 #[.pointer (some ⟨bl,0,none⟩)] W fun r W'=>r = .returned (.tuple #[.string ⟨#[]⟩,.bool false]) ∧ W = W':=by
 obtain ⟨A,n,c,B,m,d,h1,h2,h3,h4,h5,h6,h7,h8,h9,h10⟩:=hI
 simp only [List.length_nil] at h5
 subst h5
 have c0 : W.cell? ⟨bl,0,none⟩ = some (.slice B 0 d):=h4.cell 0
 clear h1 h2 h3 h4 h6 h7 h8 h9 h10
 go_enter Tryz.func37,Tryz.ntmps37
 go_wp2_with fail
 go_ret2
 exact ⟨rfl,rfl⟩
set_option maxHeartbeats 1000000 in
theorem span_take_cons (w0 W : World) (bg bl : Nat) (f e : List UInt8) (l : List Trie.KV) (x : List UInt8) (left : List (List UInt8)) (hll : left.length ≤ 100000) (hI : SpI w0 bg bl f e (l,x :: left) W) :
  Calls Tryz.prog 37 #[.pointer (some ⟨bl,0,none⟩)] W fun r W'=>r = .returned (.tuple #[.string ⟨x.toArray⟩,.bool true]) ∧ SpI w0 bg bl f e (l,left) W' ∧ Kept W W':=by
 have HSp:=Lib.hid hI
 obtain ⟨A,n,c,B,m,d,h1,h2,h3,h4,h5,h6,h7,h8,h9,h10⟩:=hI
 simp only [List.length_cons] at h5
 subst h5
 have c0 : W.cell? ⟨bl,0,none⟩ = some (.slice B (left.length + 1) d):=h4.cell 0
 have fr:=h4.frozen 0
 obtain ⟨A1,c1,SL,hc1,RD⟩:=tx_cut_from B (x :: left) (left.length + 1) d 1 (by simp) (by omega) h6
 rw [Nat.add_sub_cancel] at SL hc1 RD
 have SL1 : ∀ w,(Instr.sliceAt 25 (.slice B (left.length + 1) d) (some (.int .i64 1)) none none).run Tryz.prog w = .ok (.slice A1 left.length c1) w:=SL
 clear SL
 have HRd:=Lib.hid (RD w0 _ h7)
 obtain ⟨ad,off,rfl,hbl,hcell⟩:=h7.form (by omega) (by omega)
 have q0:=hcell 0 (by simp [strv])
 have q1 : W.cell? ⟨ad,off,none⟩ = some (.string ⟨x.toArray⟩):=(h8.cell (p:=⟨ad,off,none⟩) hbl).trans (by simpa [strv] using q0)
 have hlz : ((left.length : Int) + 1 == 0) = false:=by simp; omega
 have hl0 : (0 : Int) < (left.length : Int) + 1:=by omega
 have HQ : Hid (SpI w0 bg bl f e (l,left) (W.setCell ⟨bl,0,none⟩ (.slice A1 left.length c1)) ∧ Kept W (W.setCell ⟨bl,0,none⟩ (.slice A1 left.length c1))):=Lib.hid ⟨HSp.out.setl hc1 HRd.out,HSp.out.keptl _⟩
 have HW:=Lib.hid (And.intro h1 h4)
 clear h1 h2 h3 h4 h6 h7 h8 h9 h10 RD hcell q0 hll
 go_enter Tryz.func37,Tryz.ntmps37
 go_wp2_with fail
 go_ret2
 exact ⟨rfl,HQ.out⟩
set_option maxRecDepth 100000 in
set_option maxHeartbeats 2000000 in
theorem span_may (W : World) (bg : Nat) (f e : List UInt8) (V : Value) (hf : f.length ≤ 1048576) (he : e.length ≤ 1048576) (h1 : Blk W bg 87 #[.string ⟨f.toArray⟩,.string ⟨e.toArray⟩,.string ⟨(Nib.of f).toArray⟩,.string ⟨(Nib.of e).toArray⟩,V]) (pl : List UInt8) (hl : pl.length ≤ 4194304) :
  Calls Tryz.prog 78 #[.pointer (some ⟨bg,0,none⟩),.string ⟨pl.toArray⟩] W (Ret W (.bool (coverW (Nib.of f) (Nib.of e) e pl))):=by
 have HP : Hid (∀ r W',coverW (Nib.of f) (Nib.of e) e pl = r → Below W.heap.size W W' → Ret W (.bool (coverW (Nib.of f) (Nib.of e) e pl)) (Ending.returned (.bool r)) W'):=Lib.hid (fun r W' a1 a2=>⟨by rw [a1],a2⟩)
 have HC : Hid (coverW (Nib.of f) (Nib.of e) e pl = (decide (0 ≤ Nib.side pl (Nib.of f)) && (e.isEmpty || decide (Nib.side pl (Nib.of e) ≤ 0)))):=Lib.hid rfl
 generalize Ret W (.bool (coverW (Nib.of f) (Nib.of e) e pl)) = P at HP ⊢
 generalize coverW (Nib.of f) (Nib.of e) e pl = cw at *
 have HB:=Lib.hid h1
 have HS1 : Hid (Calls Tryz.prog 110 #[.string ⟨pl.toArray⟩,.string ⟨(Nib.of f).toArray⟩] W fun e w'=>e = .returned (.int .i64 (Nib.side pl (Nib.of f))) ∧ Below W.heap.size W w'):=Lib.hid (nib_Side pl (Nib.of f) W (by omega) (by rw [Nib.of_length]; omega))
 have HS2 : Hid (∀ W,Calls Tryz.prog 110 #[.string ⟨pl.toArray⟩,.string ⟨(Nib.of e).toArray⟩] W fun r w'=>r = .returned (.int .i64 (Nib.side pl (Nib.of e))) ∧ Below W.heap.size W w'):=Lib.hid (fun W=>nib_Side pl (Nib.of e) W (by omega) (by rw [Nib.of_length]; omega))
 have c2 : W.cell? ⟨bg,2,none⟩ = some (.string ⟨(Nib.of f).toArray⟩):=h1.cell 2
 have HD1 : Hid (∀ W',Below W.heap.size W W' → W'.cell? ⟨bg,1,none⟩ = some (.string ⟨e.toArray⟩)):=Lib.hid (fun W' hb=>(HB.out.below hb HB.out.lt).cell 1)
 have HD3 : Hid (∀ W',Below W.heap.size W W' → W'.cell? ⟨bg,3,none⟩ = some (.string ⟨(Nib.of e).toArray⟩)):=Lib.hid (fun W' hb=>(HB.out.below hb HB.out.lt).cell 3)
 clear h1 hf he hl
 generalize Nib.of f = low at *
 generalize Nib.of e = high at *
 by_cases s1 : 0 ≤ Nib.side pl low
 ·by_cases he : e = []
  ·have HR : Hid (cw = true):=Lib.hid (by rw [HC.out]; simp [s1,he])
   subst he
   clear HC HS2 HD3
   generalize Nib.side pl low = sl at *
   go_enter Tryz.func78,Tryz.ntmps78
   go_wp2_with (go_at_call 110; refine HS1.out.mono ?_; rintro e w1 ⟨rfl,hb1⟩; have d1:=HD1.out _ hb1)
   exact HP.out _ _ HR.out hb1
  ·have ne1 : (e.toArray = #[]) = False:=by simp [he]
   have ne2 : e.isEmpty = false:=by simp [he]
   by_cases s2 : Nib.side pl high ≤ 0
   ·have HR : Hid (cw = true):=Lib.hid (by rw [HC.out]; simp [s1,s2])
    clear HC he
    generalize Nib.side pl low = sl at *
    generalize Nib.side pl high = sh at *
    go_enter Tryz.func78,Tryz.ntmps78
    have tok1 : True:=trivial
    go_wp2_with (first | (go_at_call 110; have _t:=tok1; refine HS1.out.mono ?_; rintro e w1 ⟨rfl,hb1⟩; have d1:=HD1.out _ hb1; have d3:=HD3.out _ hb1; clear _t tok1) | (go_at_call 110; refine (HS2.out _).mono ?_; rintro e w2 ⟨rfl,hb2⟩))
    exact HP.out _ _ HR.out (hb1.nxt hb2)
   ·have HR : Hid (cw = false):=Lib.hid (by rw [HC.out]; simp [s2,ne2])
    have s2' : (Nib.side pl high ≤ 0) = False:=by simp [s2]
    clear HC he s2
    generalize Nib.side pl low = sl at *
    generalize Nib.side pl high = sh at *
    go_enter Tryz.func78,Tryz.ntmps78
    have tok1 : True:=trivial
    go_wp2_with (first | (go_at_call 110; have _t:=tok1; refine HS1.out.mono ?_; rintro e w1 ⟨rfl,hb1⟩; have d1:=HD1.out _ hb1; have d3:=HD3.out _ hb1; clear _t tok1) | (go_at_call 110; refine (HS2.out _).mono ?_; rintro e w2 ⟨rfl,hb2⟩))
    exact HP.out _ _ HR.out (hb1.nxt hb2)
 ·have HR : Hid (cw = false):=Lib.hid (by rw [HC.out]; simp [s1])
  have s1' : (0 ≤ Nib.side pl low) = False:=by simp [s1]
  clear HC s1 HS2 HD3 HD1
  generalize Nib.side pl low = sl at *
  go_enter Tryz.func78,Tryz.ntmps78
  go_wp2_with (go_at_call 110; refine HS1.out.mono ?_; rintro e w1 ⟨rfl,hb1⟩)
  exact HP.out _ _ HR.out hb1
theorem SpI.ends {w0 : World} {bg bl : Nat} {f e : List UInt8} {st : Trie.Gst} {W : World} (h : SpI w0 bg bl f e st W) : W.cell? ⟨bg,0,none⟩ = some (.string ⟨f.toArray⟩) ∧ W.cell? ⟨bg,1,none⟩ = some (.string ⟨e.toArray⟩):=by
 obtain ⟨A,n,c,B,m,d,h1,h2,h3,h4,h5,h6,h7,h8,h9,h10⟩:=h
 exact ⟨h1.cell 0,h1.cell 1⟩
def ItemEnd (w0 : World) (bg bl : Nat) (f e : List UInt8) (W : World) (r : Bool) (st : Trie.Gst) (q : Ending) (W' : World) : Prop:=q = .returned (.bool r) ∧ SpI w0 bg bl f e st W' ∧ Kept W W'
set_option maxRecDepth 100000 in
set_option maxHeartbeats 2000000 in
theorem span_item (w0 W : World) (bg bl : Nat) (f e : List UInt8) (st : Trie.Gst) (hI : SpI w0 bg bl f e st W) (hn : st.1.length ≤ 100000) (path value : List UInt8) (hp : path.length ≤ 1048576) :
  Calls Tryz.prog 81 #[.pointer (some ⟨bg,0,none⟩),.string ⟨path.toArray⟩,.string ⟨value.toArray⟩] W (ItemEnd w0 bg bl f e W (Trie.itemGa f e path value st.1).1 ((Trie.itemGa f e path value st.1).2,st.2)):=by
 have HP : Hid (∀ b l W',Trie.itemGa f e path value st.1 = (b,l) → SpI w0 bg bl f e (l,st.2) W' → Kept W W' → ItemEnd w0 bg bl f e W (Trie.itemGa f e path value st.1).1 ((Trie.itemGa f e path value st.1).2,st.2) (.returned (.bool b)) W'):=Lib.hid (fun b l W' h1 h2 h3=>by rw [h1]; exact ⟨rfl,h2,h3⟩)
 have HG : Hid (Trie.itemGa f e path value st.1 = if (Nib.key path).2 ≠ 0 ∨ (Nib.key path).1 = [] ∨ 16 < path.length then (false,st.1) else (true,if Trie.inK f e (Nib.key path).1 = true then st.1 ++ [((Nib.key path).1,value)] else st.1)):=Lib.hid rfl
 generalize ItemEnd w0 bg bl f e W (Trie.itemGa f e path value st.1).1 ((Trie.itemGa f e path value st.1).2,st.2) = P at HP ⊢
 generalize Trie.itemGa f e path value st.1 = G at *
 have HK:=Lib.hid (nib_Key path W hp)
 have HI:=Lib.hid hI
 clear hI
 generalize hkk : Nib.key path = kk at *
 clear hkk
 obtain ⟨key,cd⟩:=kk
 simp only at HG HK
 have HN:=Lib.hid hn
 clear hn
 by_cases k1 : cd = 0
 ·subst k1
  by_cases k2 : key = []
  ·subst k2
   rw [if_pos (.inr (.inl rfl))] at HG
   clear hp
   go_enter Tryz.func81,Tryz.ntmps81
   go_wp2_with (go_at_call 60; refine HK.out.mono ?_; rintro r w1 ⟨rfl,hb⟩; have HI1:=Lib.hid (HI.out.next hb); have HKp:=Lib.hid (Kept.low hb); clear hb; obtain ⟨c0,c1⟩:=SpI.ends HI1.out)
   exact HP.out false _ _ HG.out HI1.out HKp.out
  have ne1 : (key.toArray = #[]) = False:=by simp [k2]
  have ne2 : key.isEmpty = false:=by simp [k2]
  by_cases k3 : 16 < path.length
  ·rw [if_pos (.inr (.inr k3))] at HG
   have hI : (16 : Int) < path.length:=by omega
   clear k2 k3 hp
   go_enter Tryz.func81,Tryz.ntmps81
   go_wp2_with (go_at_call 60; refine HK.out.mono ?_; rintro r w1 ⟨rfl,hb⟩; have HI1:=Lib.hid (HI.out.next hb); have HKp:=Lib.hid (Kept.low hb); clear hb; obtain ⟨c0,c1⟩:=SpI.ends HI1.out)
   exact HP.out false _ _ HG.out HI1.out HKp.out
  rw [if_neg (by simp [k2,k3])] at HG
  have hI : ((16 : Int) < path.length) = False:=by simp; omega
  clear k2 k3 hp
  cases k4 : Op.bytesLess key f with
  | true =>
   rw [if_neg (by simp [Trie.inK,k4])] at HG
   go_enter Tryz.func81,Tryz.ntmps81
   go_wp2_with (go_at_call 60; refine HK.out.mono ?_; rintro r w1 ⟨rfl,hb⟩; have HI1:=Lib.hid (HI.out.next hb); have HKp:=Lib.hid (Kept.low hb); clear hb; obtain ⟨c0,c1⟩:=SpI.ends HI1.out)
   exact HP.out true _ _ HG.out HI1.out HKp.out
  | false =>
   by_cases k5 : e = []
   ·subst k5
    rw [if_pos (by simp [Trie.inK,k4])] at HG
    go_enter Tryz.func81,Tryz.ntmps81
    go_upto_region 5 with (go_at_call 60; refine HK.out.mono ?_; rintro r w1 ⟨rfl,hb⟩; have HI1:=Lib.hid (HI.out.next hb); have HKp:=Lib.hid (Kept.low hb); clear hb; obtain ⟨c0,c1⟩:=SpI.ends HI1.out)
    obtain ⟨A,n,c,B,m,d,h1,h2,h3,h4,h5,h6,h7,h8,h9,h10⟩:=HI1.out
    have HH:=Lib.hid (And.intro h1 (And.intro h2 (And.intro h3 (And.intro h4 (And.intro h5 (And.intro h6 (And.intro h7 (And.intro h9 h10))))))))
    have HB8:=Lib.hid h8
    have c4 : w1.cell? ⟨bg,4,none⟩ = some (.slice A n c):=h1.cell 4
    have hn1 : n ≤ 100000:=by rw [h2]; exact HN.out
    clear h1 h2 h4 h5 h6 h7 h9 h10 c0 c1
    go_wp2_with (at_builtin; refine wpList_append_new w1 77 [.string ⟨key.toArray⟩,.string ⟨value.toArray⟩] rfl _ _ 24 rfl w0.heap.size 2 32 _ info_item Tryz.underlying24 rfl (by decide) (.slice A n c) n _ rfl h3 1 1 rfl rfl (by simp [Value.oneCell']) (by simp only [maxLen]; omega) (by omega) w0.heap.size w0 h8 (Nat.le_refl _) h8.size ?_; intro v2 w2 hown2 hb2 hgr2 _ _; obtain ⟨A2,cc2,rfl,_,_,_⟩:=own_form hown2; have hbk2:=HH.out.1.grown hgr2 (fun e=>own_blk_ne HH.out.2.2.1 HH.out.1 (by decide) e.symm); have co2:=hbk2.cell 4; have fo2:=hbk2.frozen 4; have O2:=Lib.hid (And.intro (SpI.push (x:=(key,value)) HH.out.1 HH.out.2.1 HH.out.2.2.1 HH.out.2.2.2.1 HH.out.2.2.2.2.1 HH.out.2.2.2.2.2.1 HH.out.2.2.2.2.2.2.1 HH.out.2.2.2.2.2.2.2.1 HH.out.2.2.2.2.2.2.2.2 hown2 hb2 hgr2) (kept_push HH.out.1 HH.out.2.2.1 hgr2 (.slice A2 (n + 1) cc2))); clear hown2 hb2 hgr2 hbk2)
    exact HP.out true _ _ HG.out O2.out.1 (HKp.out.trans O2.out.2)
   have ne3 : (e.toArray = #[]) = False:=by simp [k5]
   have ne4 : e.isEmpty = false:=by simp [k5]
   cases k6 : Op.bytesLess key e with
   | true =>
    rw [if_pos (by simp [Trie.inK,k4,k6])] at HG
    clear k5
    go_enter Tryz.func81,Tryz.ntmps81
    go_upto_region 5 with (go_at_call 60; refine HK.out.mono ?_; rintro r w1 ⟨rfl,hb⟩; have HI1:=Lib.hid (HI.out.next hb); have HKp:=Lib.hid (Kept.low hb); clear hb; obtain ⟨c0,c1⟩:=SpI.ends HI1.out)
    obtain ⟨A,n,c,B,m,d,h1,h2,h3,h4,h5,h6,h7,h8,h9,h10⟩:=HI1.out
    have HH:=Lib.hid (And.intro h1 (And.intro h2 (And.intro h3 (And.intro h4 (And.intro h5 (And.intro h6 (And.intro h7 (And.intro h9 h10))))))))
    have HB8:=Lib.hid h8
    have c4 : w1.cell? ⟨bg,4,none⟩ = some (.slice A n c):=h1.cell 4
    have hn1 : n ≤ 100000:=by rw [h2]; exact HN.out
    clear h1 h2 h4 h5 h6 h7 h9 h10 c0 c1
    go_wp2_with (at_builtin; refine wpList_append_new w1 77 [.string ⟨key.toArray⟩,.string ⟨value.toArray⟩] rfl _ _ 24 rfl w0.heap.size 2 32 _ info_item Tryz.underlying24 rfl (by decide) (.slice A n c) n _ rfl h3 1 1 rfl rfl (by simp [Value.oneCell']) (by simp only [maxLen]; omega) (by omega) w0.heap.size w0 h8 (Nat.le_refl _) h8.size ?_; intro v2 w2 hown2 hb2 hgr2 _ _; obtain ⟨A2,cc2,rfl,_,_,_⟩:=own_form hown2; have hbk2:=HH.out.1.grown hgr2 (fun e=>own_blk_ne HH.out.2.2.1 HH.out.1 (by decide) e.symm); have co2:=hbk2.cell 4; have fo2:=hbk2.frozen 4; have O2:=Lib.hid (And.intro (SpI.push (x:=(key,value)) HH.out.1 HH.out.2.1 HH.out.2.2.1 HH.out.2.2.2.1 HH.out.2.2.2.2.1 HH.out.2.2.2.2.2.1 HH.out.2.2.2.2.2.2.1 HH.out.2.2.2.2.2.2.2.1 HH.out.2.2.2.2.2.2.2.2 hown2 hb2 hgr2) (kept_push HH.out.1 HH.out.2.2.1 hgr2 (.slice A2 (n + 1) cc2))); clear hown2 hb2 hgr2 hbk2)
    exact HP.out true _ _ HG.out O2.out.1 (HKp.out.trans O2.out.2)
   | false =>
    rw [if_neg (by simp [Trie.inK,k4,k6,k5])] at HG
    clear k5
    go_enter Tryz.func81,Tryz.ntmps81
    go_wp2_with (go_at_call 60; refine HK.out.mono ?_; rintro r w1 ⟨rfl,hb⟩; have HI1:=Lib.hid (HI.out.next hb); have HKp:=Lib.hid (Kept.low hb); clear hb; obtain ⟨c0,c1⟩:=SpI.ends HI1.out)
    exact HP.out true _ _ HG.out HI1.out HKp.out
 ·rw [if_pos (.inl k1)] at HG
  have hI : ((cd : Int) != 0) = true:=by simp; exact k1
  clear k1 hp
  go_enter Tryz.func81,Tryz.ntmps81
  go_wp2_with (go_at_call 60; refine HK.out.mono ?_; rintro r w1 ⟨rfl,hb⟩; have HI1:=Lib.hid (HI.out.next hb); have HKp:=Lib.hid (Kept.low hb); clear hb; obtain ⟨c0,c1⟩:=SpI.ends HI1.out)
  exact HP.out false _ _ HG.out HI1.out HKp.out
theorem Trie.Good.ofW : ∀ (l : List Trie.KV) (t : Trie.T),Trie.Good t → (Trie.ofW t l).2 = 0 → Trie.Good (Trie.ofW t l).1 ∧ Trie.count (Trie.ofW t l).1 ≤ Trie.count t + l.length
 | [],t,h,_=>⟨h,by simp [Trie.ofW]⟩
 | x :: l,t,h,hc=>by
  unfold Trie.ofW at hc ⊢
  by_cases hp : Trie.putCode x.1 x.2 = 0
  ·rw [if_pos hp] at hc ⊢
   obtain ⟨a1,a2,a3⟩:=Trie.putCode_zero hp
   obtain ⟨b1,b2⟩:=Trie.Good.ofW l _ (Trie.Good.put h a1 a2 a3) hc
   have:=Trie.count_put t (Nib.of x.1) x.2
   exact ⟨b1,by rw [List.length_cons]; omega⟩
  ·rw [if_neg hp] at hc
   exact absurd hc hp
end Go.Proofs.YtomnlhbioijfhaaGreatDoor
