import Derived.Test.YtomnlhbioijfhaaGreatDoorJ43
import Derived.Test.YtomnlhbioijfhaaGreatDoorJ34
import Derived.Test.YtomnlhbioijfhaaGreatDoorJ20
import Derived.Test.YtomnlhbioijfhaaGreatDoorJ11
import Derived.Test.YtomnlhbioijfhaaGreatDoorJ27
import Derived.Test.YtomnlhbioijfhaaGreatDoorJ44
import Derived.Test.YtomnlhbioijfhaaGreatDoorJ32
import Derived.Test.YtomnlhbioijfhaaGreatDoorJ38
import Derived.Deep.DeepCutAuto
set_option linter.unusedSimpArgs false
set_option linter.unusedVariables false
namespace Go.Proofs.YtomnlhbioijfhaaGreatDoor
open Go.RowKit Go.Instr
attribute [local go_sem] ba_get ByteArray.mk_append_mk
attribute [local go_sem ↓] Go.wp_at_zero Go.wp_at_succ
theorem verify_short (root f e : List UInt8) (most : Nat) (items : List Trie.KV) (nx : List UInt8) (nodes : List (List UInt8)) : (Trie.verifyP root f e most items nx nodes).1.length ≤ items.length:=by
 unfold Trie.verifyP
 split
 ·simp
 split
 ·split <;> simp
 split
 ·simp
 ·exact Nat.le_refl _
theorem verify_small (root f e : List UInt8) (hf : f.length ≤ 100) (he : e.length ≤ 100) (most : Int) (items : List Trie.KV) (hi : items.length ≤ 40) (nx : List UInt8) (hx : nx.length ≤ 100) (nodes : List (List UInt8)) (hn : nodes.length ≤ 60) (hns : ∀ x ∈ nodes,x.length ≤ 700) :
  ∃ (l : List Trie.KV) (s : List UInt8) (cd : Nat),l.length ≤ 40 ∧
   (∀ W A c B d,Reads W W.heap.size 2 A items.length (icells items) → Reads W W.heap.size 1 B nodes.length (strv nodes) → nodes.length ≤ d → Tbl W → Calls Tryz.prog 9 #[.string ⟨root.toArray⟩,.string ⟨f.toArray⟩,.string ⟨e.toArray⟩,.int .i64 most,.agg #[.slice A items.length c,.string ⟨nx.toArray⟩,.slice B nodes.length d]] W (ItemsTEnd W (l,s,cd))) ∧
   (∀ W A c B d,Reads W W.heap.size 2 A items.length (icells items) → Reads W W.heap.size 1 B nodes.length (strv nodes) → nodes.length ≤ d → (∀ a,B = some a → a.block < W.heap.size) → Calls Tryz.prog 10 #[.string ⟨root.toArray⟩,.string ⟨f.toArray⟩,.string ⟨e.toArray⟩,.int .i64 most,.agg #[.slice A items.length c,.string ⟨nx.toArray⟩,.slice B nodes.length d]] W (VerIEnd W (l,s,cd))):=by
 by_cases hm : most < 1 ∨ 16 < most
 ·exact ⟨[], [],1,by simp,fun W A c B d _ _ _ _=>span_Verify_bad W root f e most hm items A c nx nodes B d,fun W A c B d _ _ _ _=>ref14_Verify_bad W root f e most hm items A c nx nodes B d⟩
 ·obtain ⟨m,rfl,h1,h2⟩ : ∃ m : Nat,most = (m : Int) ∧ 1 ≤ m ∧ m ≤ 16:=⟨most.toNat,by omega,by omega,by omega⟩
  have hv:=verify_short root f e m items nx nodes
  exact ⟨(Trie.verifyP root f e m items nx nodes).1,(Trie.verifyP root f e m items nx nodes).2.1,(Trie.verifyP root f e m items nx nodes).2.2,by omega,
   fun W A c B d r1 r2 r3 hT=>span_Verify W root f e (by omega) (by omega) m h1 h2 items A c r1 (by omega) nx (by omega) nodes B d r2 r3 (by omega) (fun x hx=>by have:=hns x hx; omega) hT,
   fun W A c B d r1 r2 r3 hB=>ref14_Verify W root f e (by omega) (by omega) m h1 h2 items A c r1 (by omega) nx (by omega) nodes B d r2 r3 hn (fun x hx=>by have:=hns x hx; omega) hB⟩
theorem lent_cell {W : World} {g8 : Nat} {nodes : List (List UInt8)} (h : Reads W W.heap.size 1 (some ⟨g8,0,none⟩) (nodes.length + 1) (strv nodes ++ [behindV])) : ∃ s,W.cell? ⟨g8,0,none⟩ = some (.string s):=by
 obtain ⟨b,off,hA,_,hc⟩:=h.form (by omega) (by omega)
 injection hA with hA
 injection hA with hA1 hA2 _
 subst hA1
 subst hA2
 have:=hc 0 (by simp)
 rw [Nat.add_zero] at this
 cases nodes with
 | nil=>exact ⟨_,this⟩
 | cons x r=>exact ⟨_,this⟩
theorem lent_stored {w W : World} {L : List (Nat × Nat × Array Value)} {pc g8 c7 c8 : Nat} {A7 : Option Addr} {items : List Trie.KV} {nodes : List (List UInt8)} {nx : List UInt8} (FQ : Hid (Live w W L)) (M : Hid (Blk W pc 27 #[.slice none 0 0,.string ⟨#[]⟩,.slice none 0 0])) (HPc : Hid (w.heap.size ≤ pc)) {base : Nat}
  (OA : Hid (W.ownsRow base 77 2 (.slice A7 items.length c7) items.length (icells items))) (R : Hid (Reads W W.heap.size 1 (some ⟨g8,0,none⟩) (nodes.length + 1) (strv nodes ++ [behindV]))) (HPn : Hid (∀ x ∈ L,pc ≠ x.1)) :
  Hid (Live w (((W.setCell ⟨pc,0,none⟩ (.slice A7 items.length c7)).setCell ⟨pc,1,none⟩ (.string ⟨nx.toArray⟩)).setCell ⟨pc,2,none⟩ (.slice (some ⟨g8,0,none⟩) nodes.length c8)) ((pc,27,#[.slice A7 items.length c7,.string ⟨nx.toArray⟩,.slice (some ⟨g8,0,none⟩) nodes.length c8]) :: L)
   ∧ Reads (((W.setCell ⟨pc,0,none⟩ (.slice A7 items.length c7)).setCell ⟨pc,1,none⟩ (.string ⟨nx.toArray⟩)).setCell ⟨pc,2,none⟩ (.slice (some ⟨g8,0,none⟩) nodes.length c8)) (((W.setCell ⟨pc,0,none⟩ (.slice A7 items.length c7)).setCell ⟨pc,1,none⟩ (.string ⟨nx.toArray⟩)).setCell ⟨pc,2,none⟩ (.slice (some ⟨g8,0,none⟩) nodes.length c8)).heap.size 2 A7 items.length (icells items)
   ∧ Reads (((W.setCell ⟨pc,0,none⟩ (.slice A7 items.length c7)).setCell ⟨pc,1,none⟩ (.string ⟨nx.toArray⟩)).setCell ⟨pc,2,none⟩ (.slice (some ⟨g8,0,none⟩) nodes.length c8)) (((W.setCell ⟨pc,0,none⟩ (.slice A7 items.length c7)).setCell ⟨pc,1,none⟩ (.string ⟨nx.toArray⟩)).setCell ⟨pc,2,none⟩ (.slice (some ⟨g8,0,none⟩) nodes.length c8)).heap.size 1 (some ⟨g8,0,none⟩) (nodes.length + 1) (strv nodes ++ [behindV])):=by
 have hF : Live w W ((pc,27,#[.slice none 0 0,.string ⟨#[]⟩,.slice none 0 0]) :: L):=⟨FQ.out.b,fun x hx=>by
  rcases List.mem_cons.1 hx with rfl | hx
  ·exact ⟨HPc.out,M.out⟩
  ·exact FQ.out.l x hx,List.pairwise_cons.2 ⟨HPn.out,FQ.out.d⟩⟩
 have hne : ∀ a,(some ⟨g8,0,none⟩ : Option Addr) = some a → pc ≠ a.block:=fun a ha e=>by
  injection ha with ha
  subst ha
  obtain ⟨s,hs⟩:=lent_cell R.out
  have e : pc = g8:=e
  subst e
  rw [M.out.cell 0] at hs
  cases hs
 refine Lib.hid ⟨hF.put3 _ _ _,Reads.of_own (own_page M.out OA.out (by decide)), ?_⟩
 exact (reads_apart (reads_apart (reads_apart R.out hne _) hne _) hne _).more (by simp [World.setCell])
set_option maxRecDepth 100000 in
set_option maxHeartbeats 16000000 in
theorem law_SpanVerifies (w : World) (root f e : List UInt8) (most : Int) (items : List Trie.KV) (A1 : Option Addr) (c1 : Nat) (nx : List UInt8) (nodes : List (List UInt8)) (B1 : Option Addr) (d1 : Nat)
  (HI : Reads w w.heap.size 2 A1 items.length (icells items)) (HN : Reads w w.heap.size 1 B1 nodes.length (strv nodes)) (hd1 : nodes.length ≤ d1) (HBB : ∀ a,B1 = some a → a.block < w.heap.size) (hrm : root.length ≤ 9223372036854775807) (hfm : f.length ≤ 9223372036854775807) (hem : e.length ≤ 9223372036854775807) (hT : Tbl w) :
  Calls Tryz.prog 3 #[.string ⟨root.toArray⟩,.agg #[.string ⟨f.toArray⟩,.string ⟨e.toArray⟩,.int .i64 most],.agg #[.slice A1 items.length c1,.string ⟨nx.toArray⟩,.slice B1 nodes.length d1]] w fun e w'=>e = .returned (.bool true) ∧ Below w.heap.size w w':=by
 have HP : Hid (∀ w',Below w.heap.size w w' → (fun e w'=>e = Ending.returned (.bool true) ∧ Below w.heap.size w w') (Ending.returned (.bool true)) w'):=Lib.hid (fun W' a2=>⟨rfl,a2⟩)
 generalize (fun e w'=>e = Ending.returned (.bool true) ∧ Below w.heap.size w w') = P at HP ⊢
 have HTb:=Lib.hid hT
 have HWk:=Lib.hid (fun W (hW : Below w.heap.size w W)=>law14_works W (hT.next hW))
 have HIr:=Lib.hid HI
 have HNr:=Lib.hid HN
 have HBl:=Lib.hid HBB
 have HDl:=Lib.hid hd1
 have HBg:=Lib.hid (fun W (hW : Below w.heap.size w W)=>law14_big W items A1 c1 ((HIr.out.below hW).more hW.size) nx nodes B1 d1 ((HNr.out.below hW).more hW.size))
 clear hT HI HN HBB hd1
 by_cases hr : root.length ≤ 100
 rotate_left
 ·have r1 : (100 : Int) < root.length:=by omega
  clear hr
  go_enter Tryz.func3,Tryz.ntmps3
  go_upto_region 1 with fail
  have F00:=Live.ha (Lib.hid (Live.start w)) #[.string ⟨f.toArray⟩,.string ⟨e.toArray⟩,.int .i64 most] 23
  have F01:=Live.ha F00 #[.slice A1 items.length c1,.string ⟨nx.toArray⟩,.slice B1 nodes.length d1] 27
  rw [show (w.alloc (.cells #[.string ⟨f.toArray⟩,.string ⟨e.toArray⟩,.int .i64 most] 23)).heap.size = w.heap.size + 1 from by show (w.heap.push _).size = _; exact Array.size_push _] at F01
  generalize (w.alloc (.cells #[.string ⟨f.toArray⟩,.string ⟨e.toArray⟩,.int .i64 most] 23)).alloc (.cells #[.slice A1 items.length c1,.string ⟨nx.toArray⟩,.slice B1 nodes.length d1] 27) = W0 at F01 ⊢
  clear F00
  obtain ⟨pb,hpb⟩ : ∃ pb,w.heap.size + 1 = pb:=⟨_,rfl⟩
  obtain ⟨bx,hbx⟩ : ∃ bx,w.heap.size = bx:=⟨_,rfl⟩
  have F0 : Hid (Live w W0 [(pb,27,#[.slice A1 items.length c1,.string ⟨nx.toArray⟩,.slice B1 nodes.length d1]),(bx,23,#[.string ⟨f.toArray⟩,.string ⟨e.toArray⟩,.int .i64 most])]):=by rw [← hpb,← hbx]; exact F01
  rw [hpb,hbx]
  clear F01 hpb hbx
  have k0_0 : W0.cell? ⟨pb,0,none⟩ = some (.slice A1 items.length c1):=F0.out.cell 0 0 rfl rfl; have k0_1 : W0.cell? ⟨pb,1,none⟩ = some (.string ⟨nx.toArray⟩):=F0.out.cell 0 1 rfl rfl; have k0_2 : W0.cell? ⟨pb,2,none⟩ = some (.slice B1 nodes.length d1):=F0.out.cell 0 2 rfl rfl
  go_wp2_with fail
  refine (HBg.out _ F0.out.b).mono ?_
  rintro q w2 ⟨bb,rfl,hb,hbig⟩
  have F2:=Live.hb F0 hb
  clear hb F0 k0_0 k0_1 k0_2 HBg
  have k1_0 : w2.cell? ⟨bx,0,none⟩ = some (.string ⟨f.toArray⟩):=F2.out.cell 1 0 rfl rfl; have k1_1 : w2.cell? ⟨bx,1,none⟩ = some (.string ⟨e.toArray⟩):=F2.out.cell 1 1 rfl rfl; have k1_2 : w2.cell? ⟨bx,2,none⟩ = some (.int .i64 most):=F2.out.cell 1 2 rfl rfl
  clear hbig
  cases bb with
  | true =>
   go_wp2_with fail
   refine (HWk.out _ F2.out.b).mono ?_
   rintro q w9 ⟨rfl,hb⟩
   have F9:=Live.hb F2 hb
   go_wp2_with fail
   exact HP.out _ F9.out.b
  | false =>
   go_wp2_with fail
   refine (HWk.out _ F2.out.b).mono ?_
   rintro q w9 ⟨rfl,hb⟩
   have F9:=Live.hb F2 hb
   go_wp2_with fail
   exact HP.out _ F9.out.b
 have r1 : ((100 : Int) < root.length) = False:=by simp; omega
 by_cases hf : f.length ≤ 100
 rotate_left
 ·have f1 : (100 : Int) < f.length:=by omega
  clear hf hr
  go_enter Tryz.func3,Tryz.ntmps3
  go_upto_region 1 with fail
  have F00:=Live.ha (Lib.hid (Live.start w)) #[.string ⟨f.toArray⟩,.string ⟨e.toArray⟩,.int .i64 most] 23
  have F01:=Live.ha F00 #[.slice A1 items.length c1,.string ⟨nx.toArray⟩,.slice B1 nodes.length d1] 27
  rw [show (w.alloc (.cells #[.string ⟨f.toArray⟩,.string ⟨e.toArray⟩,.int .i64 most] 23)).heap.size = w.heap.size + 1 from by show (w.heap.push _).size = _; exact Array.size_push _] at F01
  generalize (w.alloc (.cells #[.string ⟨f.toArray⟩,.string ⟨e.toArray⟩,.int .i64 most] 23)).alloc (.cells #[.slice A1 items.length c1,.string ⟨nx.toArray⟩,.slice B1 nodes.length d1] 27) = W0 at F01 ⊢
  clear F00
  obtain ⟨pb,hpb⟩ : ∃ pb,w.heap.size + 1 = pb:=⟨_,rfl⟩
  obtain ⟨bx,hbx⟩ : ∃ bx,w.heap.size = bx:=⟨_,rfl⟩
  have F0 : Hid (Live w W0 [(pb,27,#[.slice A1 items.length c1,.string ⟨nx.toArray⟩,.slice B1 nodes.length d1]),(bx,23,#[.string ⟨f.toArray⟩,.string ⟨e.toArray⟩,.int .i64 most])]):=by rw [← hpb,← hbx]; exact F01
  rw [hpb,hbx]
  clear F01 hpb hbx
  have k0_0 : W0.cell? ⟨pb,0,none⟩ = some (.slice A1 items.length c1):=F0.out.cell 0 0 rfl rfl; have k0_1 : W0.cell? ⟨pb,1,none⟩ = some (.string ⟨nx.toArray⟩):=F0.out.cell 0 1 rfl rfl; have k0_2 : W0.cell? ⟨pb,2,none⟩ = some (.slice B1 nodes.length d1):=F0.out.cell 0 2 rfl rfl
  go_wp2_with fail
  refine (HBg.out _ F0.out.b).mono ?_
  rintro q w2 ⟨bb,rfl,hb,hbig⟩
  have F2:=Live.hb F0 hb
  clear hb F0 k0_0 k0_1 k0_2 HBg
  have k1_0 : w2.cell? ⟨bx,0,none⟩ = some (.string ⟨f.toArray⟩):=F2.out.cell 1 0 rfl rfl; have k1_1 : w2.cell? ⟨bx,1,none⟩ = some (.string ⟨e.toArray⟩):=F2.out.cell 1 1 rfl rfl; have k1_2 : w2.cell? ⟨bx,2,none⟩ = some (.int .i64 most):=F2.out.cell 1 2 rfl rfl
  clear hbig
  cases bb with
  | true =>
   go_wp2_with fail
   refine (HWk.out _ F2.out.b).mono ?_
   rintro q w9 ⟨rfl,hb⟩
   have F9:=Live.hb F2 hb
   go_wp2_with fail
   exact HP.out _ F9.out.b
  | false =>
   go_wp2_with fail
   refine (HWk.out _ F2.out.b).mono ?_
   rintro q w9 ⟨rfl,hb⟩
   have F9:=Live.hb F2 hb
   go_wp2_with fail
   exact HP.out _ F9.out.b
 have f1 : ((100 : Int) < f.length) = False:=by simp; omega
 by_cases he : e.length ≤ 100
 rotate_left
 ·have e1 : (100 : Int) < e.length:=by omega
  clear he hf hr
  go_enter Tryz.func3,Tryz.ntmps3
  go_upto_region 1 with fail
  have F00:=Live.ha (Lib.hid (Live.start w)) #[.string ⟨f.toArray⟩,.string ⟨e.toArray⟩,.int .i64 most] 23
  have F01:=Live.ha F00 #[.slice A1 items.length c1,.string ⟨nx.toArray⟩,.slice B1 nodes.length d1] 27
  rw [show (w.alloc (.cells #[.string ⟨f.toArray⟩,.string ⟨e.toArray⟩,.int .i64 most] 23)).heap.size = w.heap.size + 1 from by show (w.heap.push _).size = _; exact Array.size_push _] at F01
  generalize (w.alloc (.cells #[.string ⟨f.toArray⟩,.string ⟨e.toArray⟩,.int .i64 most] 23)).alloc (.cells #[.slice A1 items.length c1,.string ⟨nx.toArray⟩,.slice B1 nodes.length d1] 27) = W0 at F01 ⊢
  clear F00
  obtain ⟨pb,hpb⟩ : ∃ pb,w.heap.size + 1 = pb:=⟨_,rfl⟩
  obtain ⟨bx,hbx⟩ : ∃ bx,w.heap.size = bx:=⟨_,rfl⟩
  have F0 : Hid (Live w W0 [(pb,27,#[.slice A1 items.length c1,.string ⟨nx.toArray⟩,.slice B1 nodes.length d1]),(bx,23,#[.string ⟨f.toArray⟩,.string ⟨e.toArray⟩,.int .i64 most])]):=by rw [← hpb,← hbx]; exact F01
  rw [hpb,hbx]
  clear F01 hpb hbx
  have k0_0 : W0.cell? ⟨pb,0,none⟩ = some (.slice A1 items.length c1):=F0.out.cell 0 0 rfl rfl; have k0_1 : W0.cell? ⟨pb,1,none⟩ = some (.string ⟨nx.toArray⟩):=F0.out.cell 0 1 rfl rfl; have k0_2 : W0.cell? ⟨pb,2,none⟩ = some (.slice B1 nodes.length d1):=F0.out.cell 0 2 rfl rfl
  go_wp2_with fail
  refine (HBg.out _ F0.out.b).mono ?_
  rintro q w2 ⟨bb,rfl,hb,hbig⟩
  have F2:=Live.hb F0 hb
  clear hb F0 k0_0 k0_1 k0_2 HBg
  have k1_0 : w2.cell? ⟨bx,0,none⟩ = some (.string ⟨f.toArray⟩):=F2.out.cell 1 0 rfl rfl; have k1_1 : w2.cell? ⟨bx,1,none⟩ = some (.string ⟨e.toArray⟩):=F2.out.cell 1 1 rfl rfl; have k1_2 : w2.cell? ⟨bx,2,none⟩ = some (.int .i64 most):=F2.out.cell 1 2 rfl rfl
  clear hbig
  cases bb with
  | true =>
   go_wp2_with fail
   refine (HWk.out _ F2.out.b).mono ?_
   rintro q w9 ⟨rfl,hb⟩
   have F9:=Live.hb F2 hb
   go_wp2_with fail
   exact HP.out _ F9.out.b
  | false =>
   go_wp2_with fail
   refine (HWk.out _ F2.out.b).mono ?_
   rintro q w9 ⟨rfl,hb⟩
   have F9:=Live.hb F2 hb
   go_wp2_with fail
   exact HP.out _ F9.out.b
 have e1 : ((100 : Int) < e.length) = False:=by simp; omega
 go_enter Tryz.func3,Tryz.ntmps3
 go_upto_region 1 with fail
 have F00:=Live.ha (Lib.hid (Live.start w)) #[.string ⟨f.toArray⟩,.string ⟨e.toArray⟩,.int .i64 most] 23
 have F01:=Live.ha F00 #[.slice A1 items.length c1,.string ⟨nx.toArray⟩,.slice B1 nodes.length d1] 27
 rw [show (w.alloc (.cells #[.string ⟨f.toArray⟩,.string ⟨e.toArray⟩,.int .i64 most] 23)).heap.size = w.heap.size + 1 from by show (w.heap.push _).size = _; exact Array.size_push _] at F01
 generalize (w.alloc (.cells #[.string ⟨f.toArray⟩,.string ⟨e.toArray⟩,.int .i64 most] 23)).alloc (.cells #[.slice A1 items.length c1,.string ⟨nx.toArray⟩,.slice B1 nodes.length d1] 27) = W0 at F01 ⊢
 clear F00
 obtain ⟨pb,hpb⟩ : ∃ pb,w.heap.size + 1 = pb:=⟨_,rfl⟩
 obtain ⟨bx,hbx⟩ : ∃ bx,w.heap.size = bx:=⟨_,rfl⟩
 have F0 : Hid (Live w W0 [(pb,27,#[.slice A1 items.length c1,.string ⟨nx.toArray⟩,.slice B1 nodes.length d1]),(bx,23,#[.string ⟨f.toArray⟩,.string ⟨e.toArray⟩,.int .i64 most])]):=by rw [← hpb,← hbx]; exact F01
 rw [hpb,hbx]
 clear F01 hpb hbx
 have k0_0 : W0.cell? ⟨pb,0,none⟩ = some (.slice A1 items.length c1):=F0.out.cell 0 0 rfl rfl; have k0_1 : W0.cell? ⟨pb,1,none⟩ = some (.string ⟨nx.toArray⟩):=F0.out.cell 0 1 rfl rfl; have k0_2 : W0.cell? ⟨pb,2,none⟩ = some (.slice B1 nodes.length d1):=F0.out.cell 0 2 rfl rfl
 go_wp2_with fail
 refine (HBg.out _ F0.out.b).mono ?_
 rintro q w2 ⟨bb,rfl,hb,hbig⟩
 have F2:=Live.hb F0 hb
 clear hb F0 k0_0 k0_1 k0_2 HBg
 have k1_0 : w2.cell? ⟨bx,0,none⟩ = some (.string ⟨f.toArray⟩):=F2.out.cell 1 0 rfl rfl; have k1_1 : w2.cell? ⟨bx,1,none⟩ = some (.string ⟨e.toArray⟩):=F2.out.cell 1 1 rfl rfl; have k1_2 : w2.cell? ⟨bx,2,none⟩ = some (.int .i64 most):=F2.out.cell 1 2 rfl rfl
 cases bb with
 | true =>
  clear hbig
  go_wp2_with fail
  refine (HWk.out _ F2.out.b).mono ?_
  rintro q w9 ⟨rfl,hb⟩
  have F9:=Live.hb F2 hb
  go_wp2_with fail
  exact HP.out _ F9.out.b
 | false =>
  obtain ⟨hil,⟨hnl,hns⟩,hit,hxl⟩:=hbig rfl
  obtain ⟨l,s,cd,hl,HV0,HR0⟩:=verify_small root f e hf he most items hil nx hxl nodes hnl hns
  have HV:=Lib.hid HV0
  have HRf:=Lib.hid HR0
  have HLl:=Lib.hid (And.intro hl (And.intro hil hnl))
  have hil2 : items.length ≤ 40:=hil
  have hnl2 : nodes.length ≤ 60:=hnl
  clear hbig hns hit hxl hl HV0 HR0 hf he hr hil hnl
  go_upto_region 3 with fail
  clear k1_0 k1_1 k1_2
  obtain ⟨i0,hi0,hz0,hz1,hz2⟩:=info_parts info_item
  go_cut [7] (fun s7 wx => ∃ pc A7 c7 g8 c8,s7 = .pointer (some ⟨pc,0,none⟩) ∧ Live w wx [(pc,27,#[.slice A7 items.length c7,.string ⟨nx.toArray⟩,.slice (some ⟨g8,0,none⟩) nodes.length c8]),(pb,27,#[.slice A1 items.length c1,.string ⟨nx.toArray⟩,.slice B1 nodes.length d1]),(bx,23,#[.string ⟨f.toArray⟩,.string ⟨e.toArray⟩,.int .i64 most])] ∧ Reads wx wx.heap.size 2 A7 items.length (icells items) ∧ Reads wx wx.heap.size 1 (some ⟨g8,0,none⟩) (nodes.length + 1) (strv nodes ++ [behindV]) ∧ nodes.length + 1 ≤ c8)
  case first =>
   have hnl3 : nodes.length ≤ 100000:=by omega
   refine wp_region_noPanic ?_
   have FQ : Hid (Live w w2.drew [(pb,27,#[.slice A1 items.length c1,.string ⟨nx.toArray⟩,.slice B1 nodes.length d1]),(bx,23,#[.string ⟨f.toArray⟩,.string ⟨e.toArray⟩,.int .i64 most])]):=Lib.hid (Live.drew F2.out 1)
   refine wp_region_held_drew (S:=fun w'=>w'.cell? ⟨pb,0,none⟩ = some (.slice A1 items.length c1) ∧ w'.cell? ⟨pb,1,none⟩ = some (.string ⟨nx.toArray⟩) ∧ w'.cell? ⟨pb,2,none⟩ = some (.slice B1 nodes.length d1)) (by kernel_rfl) ⟨FQ.out.cell 0 0 rfl rfl,FQ.out.cell 0 1 rfl rfl,FQ.out.cell 0 2 rfl rfl⟩ (fun hHeld => ?_)
   generalize w2.drew = W3 at FQ hHeld ⊢
   clear F2
   refine wpAnyH_take (i:=1) (oi:=⟨some 35,_,_,_,_,_⟩) (v := ?_) rfl (by kernel_rfl) (by kernel_rfl) (by kernel_rfl) (fun _ _ _ h=>h) (Or.inl ⟨by rfl, ?_⟩) (by assumption) ?_
   rotate_left
   ·intro w hSw
    obtain ⟨q0,q1,q2⟩:=hSw
    go_simp
    first | done | with_reducible rfl
   try simp only [Act.put,List.setIfInBounds_toArray,List.set_cons_zero,List.set_cons_succ]
   refine wpAnyH_take (i:=2) (oi:=⟨some 36,_,_,_,_,_⟩) (v := ?_) rfl (by kernel_rfl) (by kernel_rfl) (by kernel_rfl) (fun _ _ _ h=>h) (Or.inl ⟨by rfl, ?_⟩) (by assumption) ?_
   rotate_left
   ·intro w hSw
    obtain ⟨q0,q1,q2⟩:=hSw
    go_simp
    first | done | with_reducible rfl
   try simp only [Act.put,List.setIfInBounds_toArray,List.set_cons_zero,List.set_cons_succ]
   refine wpAnyH_take (i:=4) (oi:=⟨some 38,_,_,_,_,_⟩) (v := ?_) rfl (by kernel_rfl) (by kernel_rfl) (by kernel_rfl) (fun _ _ _ h=>h) (Or.inl ⟨by rfl, ?_⟩) (by assumption) ?_
   rotate_left
   ·intro w hSw
    obtain ⟨q0,q1,q2⟩:=hSw
    go_simp
    first | done | with_reducible rfl
   try simp only [Act.put,List.setIfInBounds_toArray,List.set_cons_zero,List.set_cons_succ]
   refine wpAnyH_take (i:=5) (oi:=⟨some 39,_,_,_,_,_⟩) (v := ?_) rfl (by kernel_rfl) (by kernel_rfl) (by kernel_rfl) (fun _ _ _ h=>h) (Or.inl ⟨by rfl, ?_⟩) (by assumption) ?_
   rotate_left
   ·intro w hSw
    obtain ⟨q0,q1,q2⟩:=hSw
    go_simp
    first | done | with_reducible rfl
   try simp only [Act.put,List.setIfInBounds_toArray,List.set_cons_zero,List.set_cons_succ]
   refine wpAnyH_take (i:=6) (oi:=⟨some 40,_,_,_,_,_⟩) (v := ?_) rfl (by kernel_rfl) (by kernel_rfl) (by kernel_rfl) (fun _ _ _ h=>h) (Or.inl ⟨by rfl, ?_⟩) (by assumption) ?_
   rotate_left
   ·intro w hSw
    obtain ⟨q0,q1,q2⟩:=hSw
    go_simp
    first | done | with_reducible rfl
   try simp only [Act.put,List.setIfInBounds_toArray,List.set_cons_zero,List.set_cons_succ]
   refine wpAnyH_take (i:=7) (oi:=⟨some 41,_,_,_,_,_⟩) (v := ?_) rfl (by kernel_rfl) (by kernel_rfl) (by kernel_rfl) (fun _ _ _ h=>h) (Or.inl ⟨by rfl, ?_⟩) (by assumption) ?_
   rotate_left
   ·intro w hSw
    obtain ⟨q0,q1,q2⟩:=hSw
    go_simp
    first | done | with_reducible rfl
   try simp only [Act.put,List.setIfInBounds_toArray,List.set_cons_zero,List.set_cons_succ]
   refine wpAnyH_ready (rs := [0,10]) (by kernel_rfl) (by simp) ?_
   refine AllReadyH.cons rfl (fun K hK => ?_) (AllReadyH.cons rfl (fun K hK => ?_) AllReadyH.nil)
   ·skip
    go_simp
    have Q1:=Live.hb FQ ((Below.refl _ W3).alloc (Nat.le_refl _) (.cells #[] 77))
    have OB : Hid ((W3.alloc (.cells #[] 77)).ownsRow w.heap.size 77 2 (.slice (some ⟨W3.heap.size,0,none⟩) 0 0) 0 []):=Lib.hid (World.ownsRow_made W3 #[] 0 FQ.out.b.size (by simp only [maxLen]; omega) rfl)
    refine hK.out _ _ ⟨Q1.out.cell 0 0 rfl rfl,Q1.out.cell 0 1 rfl rfl,Q1.out.cell 0 2 rfl rfl⟩ (fun hHeld => ?_)
    clear hK
    try simp only [Act.put,List.setIfInBounds_toArray,List.set_cons_zero,List.set_cons_succ]
    generalize W3.alloc (.cells #[] 77) = V1 at Q1 OB hHeld ⊢
    generalize W3.heap.size = gb at OB ⊢
    refine wpAnyH_ready (rs := [3,10]) (by kernel_rfl) (by simp) ?_
    refine AllReadyH.cons rfl (fun K hK => ?_) (AllReadyH.cons rfl (fun K hK => ?_) AllReadyH.nil)
    ·skip
     have RA2 : Reads V1 w.heap.size 2 A1 items.length (icells items):=HIr.out.below Q1.out.b
     refine step_append_any _ rfl _ _ 24 rfl w.heap.size 77 i0 _ 2 32 Tryz.underlying24 hi0 hz0 hz1 hz2 rfl (by decide) (.slice (some ⟨gb,0,none⟩) 0 0) 0 [] rfl OB.out w.heap.size A1 items.length c1 (icells items) rfl RA2 (icells_one _) (by simp only [maxLen]; omega) (by omega) Q1.out.b.size ?_
     intro v7 V2 own7 hg7' _
     have hg7 : V1.grownBy V2 (some gb):=⟨hg7'.os,hg7'.tape,hg7'.output,hg7'.size,hg7'.block⟩
     rw [Nat.zero_add,List.nil_append] at own7
     obtain ⟨A7,c7,rfl,_,_,_⟩:=own_form own7
     have Q2:=Live.hp Q1 OB.out (Nat.le_refl _) (by intro x hx; simp only [List.mem_cons,List.not_mem_nil,or_false] at hx; rcases hx with rfl | rfl <;> simp) hg7
     have OA:=Lib.hid own7
     clear own7 hg7 hg7' RA2 OB
     refine hK.out _ _ ⟨Q2.out.cell 0 0 rfl rfl,Q2.out.cell 0 1 rfl rfl,Q2.out.cell 0 2 rfl rfl⟩ (fun hHeld => ?_)
     clear hK
     try simp only [Act.put,List.setIfInBounds_toArray,List.set_cons_zero,List.set_cons_succ]
     refine wpAnyH_ready (rs := [8,10]) (by kernel_rfl) (by simp) ?_
     refine AllReadyH.cons rfl (fun K hK => ?_) (AllReadyH.cons rfl (fun K hK => ?_) AllReadyH.nil)
     ·skip
      go_simp
      refine (book_Lend V2 B1 d1 nodes ((HNr.out.below Q2.out.b).more Q2.out.b.size) (by omega)).mono ?_
      rintro q V3 ⟨g8,c8,rfl,hc8,r8,hb⟩
      have Q3:=Live.hb Q2 hb
      have L3:=Lib.hid r8
      have HC8:=Lib.hid hc8
      have OA:=Lib.hid (own_below OA.out hb)
      clear hb r8 hc8
      refine hK.out _ _ ⟨Q3.out.cell 0 0 rfl rfl,Q3.out.cell 0 1 rfl rfl,Q3.out.cell 0 2 rfl rfl⟩ (fun hHeld => ?_)
      clear hK
      try simp only [Act.put,List.setIfInBounds_toArray,List.set_cons_zero,List.set_cons_succ]
      refine wpAnyH_take (i:=9) (oi:=⟨some 43,_,_,_,_,_⟩) (v := ?_) rfl (by kernel_rfl) (by kernel_rfl) (by kernel_rfl) (fun _ _ _ h=>h) (Or.inl ⟨by rfl, ?_⟩) (by assumption) ?_
      rotate_left
      ·intro w hSw
       obtain ⟨q0,q1,q2⟩:=hSw
       go_simp
       first | done | with_reducible rfl
      try simp only [Act.put,List.setIfInBounds_toArray,List.set_cons_zero,List.set_cons_succ]
      refine wpAnyH_ready (rs := [10]) (by kernel_rfl) (by simp) ?_
      refine AllReadyH.cons rfl (fun K hK => ?_) AllReadyH.nil
      go_simp
      have Q4:=Live.hb Q3 ((Below.refl _ V3).alloc (Nat.le_refl _) (.cells #[.slice none 0 0,.string ⟨#[]⟩,.slice none 0 0] 27))
      have M4:=Lib.hid (Blk.new V3 27 #[.slice none 0 0,.string ⟨#[]⟩,.slice none 0 0])
      have HPc:=Lib.hid Q3.out.b.size
      have HPn : Hid (∀ x ∈ ([(pb,27,#[.slice A1 items.length c1,.string ⟨nx.toArray⟩,.slice B1 nodes.length d1]),(bx,23,#[.string ⟨f.toArray⟩,.string ⟨e.toArray⟩,.int .i64 most])] : List (Nat × Nat × Array Value)),V3.heap.size ≠ x.1):=Lib.hid (fun x hx h=>by have:=(Q3.out.l x hx).2.lt; omega)
      have OA:=Lib.hid (own_below OA.out ((Below.refl _ V3).alloc (Nat.le_refl _) (.cells #[.slice none 0 0,.string ⟨#[]⟩,.slice none 0 0] 27)))
      have L4:=Lib.hid ((L3.out.below ((Below.refl _ V3).alloc (Nat.le_refl _) (.cells #[.slice none 0 0,.string ⟨#[]⟩,.slice none 0 0] 27))).more ((Below.refl _ V3).alloc (Nat.le_refl _) (.cells #[.slice none 0 0,.string ⟨#[]⟩,.slice none 0 0] 27)).size)
      refine hK.out _ _ ⟨Q4.out.cell 0 0 rfl rfl,Q4.out.cell 0 1 rfl rfl,Q4.out.cell 0 2 rfl rfl⟩ (fun hHeld => ?_)
      clear hK
      try simp only [Act.put,List.setIfInBounds_toArray,List.set_cons_zero,List.set_cons_succ]
      generalize V3.alloc (.cells #[.slice none 0 0,.string ⟨#[]⟩,.slice none 0 0] 27) = V4 at Q4 M4 OA L4 hHeld ⊢
      generalize V3.heap.size = pc at M4 HPc HPn ⊢
      refine wpAnyH_ready (rs := [11]) (by kernel_rfl) (by simp) ?_
      refine AllReadyH.cons rfl (fun K hK => ?_) AllReadyH.nil
      have d0 : V4.cell? ⟨pc,0,none⟩ = some (.slice none 0 0):=M4.out.cell 0
      have d1 : V4.cell? ⟨pc,1,none⟩ = some (.string ⟨#[]⟩):=M4.out.cell 1
      have d2 : V4.cell? ⟨pc,2,none⟩ = some (.slice none 0 0):=M4.out.cell 2
      have f0:=M4.out.frozen 0
      have f1:=M4.out.frozen 1
      have f2:=M4.out.frozen 2
      have FE:=lent_stored (nx:=nx) (c8:=c8) (items:=items) (nodes:=nodes) Q4 M4 HPc OA L4 HPn
      go_simp
      refine hK.out _ _ ⟨FE.out.1.cell 1 0 rfl rfl,FE.out.1.cell 1 1 rfl rfl,FE.out.1.cell 1 2 rfl rfl⟩ (fun hHeld => ?_)
      clear hK hHeld d0 d1 d2 f0 f1 f2
      try simp only [Act.put,List.setIfInBounds_toArray,List.set_cons_zero,List.set_cons_succ]
      refine wpAnyH_done (by kernel_rfl) ?_ _
      refine NoPanic.normal ?_
      generalize ((V4.setCell ⟨pc,0,none⟩ _).setCell ⟨pc,1,none⟩ _).setCell ⟨pc,2,none⟩ _ = WE at FE ⊢
      go_wp2_with fail
      go_meet
      exact ⟨pc,A7,c7,g8,c8,rfl,FE.out.1,FE.out.2.1,FE.out.2.2,HC8.out⟩
     ·skip
      go_simp
      have Q5:=Live.hb Q2 ((Below.refl _ V2).alloc (Nat.le_refl _) (.cells #[.slice none 0 0,.string ⟨#[]⟩,.slice none 0 0] 27))
      have M5:=Lib.hid (Blk.new V2 27 #[.slice none 0 0,.string ⟨#[]⟩,.slice none 0 0])
      have HPc:=Lib.hid Q2.out.b.size
      have HPn : Hid (∀ x ∈ ([(pb,27,#[.slice A1 items.length c1,.string ⟨nx.toArray⟩,.slice B1 nodes.length d1]),(bx,23,#[.string ⟨f.toArray⟩,.string ⟨e.toArray⟩,.int .i64 most])] : List (Nat × Nat × Array Value)),V2.heap.size ≠ x.1):=Lib.hid (fun x hx h=>by have:=(Q2.out.l x hx).2.lt; omega)
      have OA:=Lib.hid (own_below OA.out ((Below.refl _ V2).alloc (Nat.le_refl _) (.cells #[.slice none 0 0,.string ⟨#[]⟩,.slice none 0 0] 27)))
      refine hK.out _ _ ⟨Q5.out.cell 0 0 rfl rfl,Q5.out.cell 0 1 rfl rfl,Q5.out.cell 0 2 rfl rfl⟩ (fun hHeld => ?_)
      clear hK
      try simp only [Act.put,List.setIfInBounds_toArray,List.set_cons_zero,List.set_cons_succ]
      generalize V2.alloc (.cells #[.slice none 0 0,.string ⟨#[]⟩,.slice none 0 0] 27) = V5 at Q5 M5 OA hHeld ⊢
      generalize V2.heap.size = pc at M5 HPc HPn ⊢
      refine wpAnyH_ready (rs := [8]) (by kernel_rfl) (by simp) ?_
      refine AllReadyH.cons rfl (fun K hK => ?_) AllReadyH.nil
      go_simp
      refine (book_Lend V5 B1 d1 nodes ((HNr.out.below Q5.out.b).more Q5.out.b.size) (by omega)).mono ?_
      rintro q V6 ⟨g8,c8,rfl,hc8,r8,hb⟩
      have Q6:=Live.hb Q5 hb
      have L6:=Lib.hid r8
      have HC8:=Lib.hid hc8
      have OA:=Lib.hid (own_below OA.out hb)
      have M6:=Lib.hid (M5.out.below hb M5.out.lt)
      clear hb r8 hc8
      refine hK.out _ _ ⟨Q6.out.cell 0 0 rfl rfl,Q6.out.cell 0 1 rfl rfl,Q6.out.cell 0 2 rfl rfl⟩ (fun hHeld => ?_)
      clear hK
      try simp only [Act.put,List.setIfInBounds_toArray,List.set_cons_zero,List.set_cons_succ]
      refine wpAnyH_take (i:=9) (oi:=⟨some 43,_,_,_,_,_⟩) (v := ?_) rfl (by kernel_rfl) (by kernel_rfl) (by kernel_rfl) (fun _ _ _ h=>h) (Or.inl ⟨by rfl, ?_⟩) (by assumption) ?_
      rotate_left
      ·intro w hSw
       obtain ⟨q0,q1,q2⟩:=hSw
       go_simp
       first | done | with_reducible rfl
      try simp only [Act.put,List.setIfInBounds_toArray,List.set_cons_zero,List.set_cons_succ]
      refine wpAnyH_ready (rs := [11]) (by kernel_rfl) (by simp) ?_
      refine AllReadyH.cons rfl (fun K hK => ?_) AllReadyH.nil
      have d0 : V6.cell? ⟨pc,0,none⟩ = some (.slice none 0 0):=M6.out.cell 0
      have d1 : V6.cell? ⟨pc,1,none⟩ = some (.string ⟨#[]⟩):=M6.out.cell 1
      have d2 : V6.cell? ⟨pc,2,none⟩ = some (.slice none 0 0):=M6.out.cell 2
      have f0:=M6.out.frozen 0
      have f1:=M6.out.frozen 1
      have f2:=M6.out.frozen 2
      have FE:=lent_stored (nx:=nx) (c8:=c8) (items:=items) (nodes:=nodes) Q6 M6 HPc OA L6 HPn
      go_simp
      refine hK.out _ _ ⟨FE.out.1.cell 1 0 rfl rfl,FE.out.1.cell 1 1 rfl rfl,FE.out.1.cell 1 2 rfl rfl⟩ (fun hHeld => ?_)
      clear hK hHeld d0 d1 d2 f0 f1 f2
      try simp only [Act.put,List.setIfInBounds_toArray,List.set_cons_zero,List.set_cons_succ]
      refine wpAnyH_done (by kernel_rfl) ?_ _
      refine NoPanic.normal ?_
      generalize ((V6.setCell ⟨pc,0,none⟩ _).setCell ⟨pc,1,none⟩ _).setCell ⟨pc,2,none⟩ _ = WE at FE ⊢
      go_wp2_with fail
      go_meet
      exact ⟨pc,A7,c7,g8,c8,rfl,FE.out.1,FE.out.2.1,FE.out.2.2,HC8.out⟩
    ·skip
     go_simp
     have Q7:=Live.hb Q1 ((Below.refl _ V1).alloc (Nat.le_refl _) (.cells #[.slice none 0 0,.string ⟨#[]⟩,.slice none 0 0] 27))
     have M7:=Lib.hid (Blk.new V1 27 #[.slice none 0 0,.string ⟨#[]⟩,.slice none 0 0])
     have HPc:=Lib.hid Q1.out.b.size
     have HPn : Hid (∀ x ∈ ([(pb,27,#[.slice A1 items.length c1,.string ⟨nx.toArray⟩,.slice B1 nodes.length d1]),(bx,23,#[.string ⟨f.toArray⟩,.string ⟨e.toArray⟩,.int .i64 most])] : List (Nat × Nat × Array Value)),V1.heap.size ≠ x.1):=Lib.hid (fun x hx h=>by have:=(Q1.out.l x hx).2.lt; omega)
     have OB:=Lib.hid (own_below OB.out ((Below.refl _ V1).alloc (Nat.le_refl _) (.cells #[.slice none 0 0,.string ⟨#[]⟩,.slice none 0 0] 27)))
     refine hK.out _ _ ⟨Q7.out.cell 0 0 rfl rfl,Q7.out.cell 0 1 rfl rfl,Q7.out.cell 0 2 rfl rfl⟩ (fun hHeld => ?_)
     clear hK
     try simp only [Act.put,List.setIfInBounds_toArray,List.set_cons_zero,List.set_cons_succ]
     generalize V1.alloc (.cells #[.slice none 0 0,.string ⟨#[]⟩,.slice none 0 0] 27) = V7 at Q7 M7 OB hHeld ⊢
     generalize V1.heap.size = pc at M7 HPc HPn ⊢
     refine wpAnyH_ready (rs := [3]) (by kernel_rfl) (by simp) ?_
     refine AllReadyH.cons rfl (fun K hK => ?_) AllReadyH.nil
     have RA8 : Reads V7 w.heap.size 2 A1 items.length (icells items):=HIr.out.below Q7.out.b
     refine step_append_any _ rfl _ _ 24 rfl w.heap.size 77 i0 _ 2 32 Tryz.underlying24 hi0 hz0 hz1 hz2 rfl (by decide) (.slice (some ⟨gb,0,none⟩) 0 0) 0 [] rfl OB.out w.heap.size A1 items.length c1 (icells items) rfl RA8 (icells_one _) (by simp only [maxLen]; omega) (by omega) Q7.out.b.size ?_
     intro v7 V8 own7 hg7' _
     have hg7 : V7.grownBy V8 (some gb):=⟨hg7'.os,hg7'.tape,hg7'.output,hg7'.size,hg7'.block⟩
     rw [Nat.zero_add,List.nil_append] at own7
     obtain ⟨A7,c7,rfl,_,_,_⟩:=own_form own7
     have Q8:=Live.hp Q7 OB.out (Nat.le_refl _) (by intro x hx; simp only [List.mem_cons,List.not_mem_nil,or_false] at hx; rcases hx with rfl | rfl <;> simp) hg7
     have OA:=Lib.hid own7
     have M8:=Lib.hid (M7.out.grown hg7 (fun e=>own_blk_ne OB.out M7.out (by simp) (by rw [e]; rfl)))
     clear own7 hg7 hg7' RA8 OB
     refine hK.out _ _ ⟨Q8.out.cell 0 0 rfl rfl,Q8.out.cell 0 1 rfl rfl,Q8.out.cell 0 2 rfl rfl⟩ (fun hHeld => ?_)
     clear hK
     try simp only [Act.put,List.setIfInBounds_toArray,List.set_cons_zero,List.set_cons_succ]
     refine wpAnyH_ready (rs := [8]) (by kernel_rfl) (by simp) ?_
     refine AllReadyH.cons rfl (fun K hK => ?_) AllReadyH.nil
     go_simp
     refine (book_Lend V8 B1 d1 nodes ((HNr.out.below Q8.out.b).more Q8.out.b.size) (by omega)).mono ?_
     rintro q V9 ⟨g8,c8,rfl,hc8,r8,hb⟩
     have Q9:=Live.hb Q8 hb
     have L9:=Lib.hid r8
     have HC8:=Lib.hid hc8
     have OA:=Lib.hid (own_below OA.out hb)
     have M9:=Lib.hid (M8.out.below hb M8.out.lt)
     clear hb r8 hc8
     refine hK.out _ _ ⟨Q9.out.cell 0 0 rfl rfl,Q9.out.cell 0 1 rfl rfl,Q9.out.cell 0 2 rfl rfl⟩ (fun hHeld => ?_)
     clear hK
     try simp only [Act.put,List.setIfInBounds_toArray,List.set_cons_zero,List.set_cons_succ]
     refine wpAnyH_take (i:=9) (oi:=⟨some 43,_,_,_,_,_⟩) (v := ?_) rfl (by kernel_rfl) (by kernel_rfl) (by kernel_rfl) (fun _ _ _ h=>h) (Or.inl ⟨by rfl, ?_⟩) (by assumption) ?_
     rotate_left
     ·intro w hSw
      obtain ⟨q0,q1,q2⟩:=hSw
      go_simp
      first | done | with_reducible rfl
     try simp only [Act.put,List.setIfInBounds_toArray,List.set_cons_zero,List.set_cons_succ]
     refine wpAnyH_ready (rs := [11]) (by kernel_rfl) (by simp) ?_
     refine AllReadyH.cons rfl (fun K hK => ?_) AllReadyH.nil
     have d0 : V9.cell? ⟨pc,0,none⟩ = some (.slice none 0 0):=M9.out.cell 0
     have d1 : V9.cell? ⟨pc,1,none⟩ = some (.string ⟨#[]⟩):=M9.out.cell 1
     have d2 : V9.cell? ⟨pc,2,none⟩ = some (.slice none 0 0):=M9.out.cell 2
     have f0:=M9.out.frozen 0
     have f1:=M9.out.frozen 1
     have f2:=M9.out.frozen 2
     have FE:=lent_stored (nx:=nx) (c8:=c8) (items:=items) (nodes:=nodes) Q9 M9 HPc OA L9 HPn
     go_simp
     refine hK.out _ _ ⟨FE.out.1.cell 1 0 rfl rfl,FE.out.1.cell 1 1 rfl rfl,FE.out.1.cell 1 2 rfl rfl⟩ (fun hHeld => ?_)
     clear hK hHeld d0 d1 d2 f0 f1 f2
     try simp only [Act.put,List.setIfInBounds_toArray,List.set_cons_zero,List.set_cons_succ]
     refine wpAnyH_done (by kernel_rfl) ?_ _
     refine NoPanic.normal ?_
     generalize ((V9.setCell ⟨pc,0,none⟩ _).setCell ⟨pc,1,none⟩ _).setCell ⟨pc,2,none⟩ _ = WE at FE ⊢
     go_wp2_with fail
     go_meet
     exact ⟨pc,A7,c7,g8,c8,rfl,FE.out.1,FE.out.2.1,FE.out.2.2,HC8.out⟩
   ·skip
    go_simp
    have Q10:=Live.hb FQ ((Below.refl _ W3).alloc (Nat.le_refl _) (.cells #[.slice none 0 0,.string ⟨#[]⟩,.slice none 0 0] 27))
    have M10:=Lib.hid (Blk.new W3 27 #[.slice none 0 0,.string ⟨#[]⟩,.slice none 0 0])
    have HPc:=Lib.hid FQ.out.b.size
    have HPn : Hid (∀ x ∈ ([(pb,27,#[.slice A1 items.length c1,.string ⟨nx.toArray⟩,.slice B1 nodes.length d1]),(bx,23,#[.string ⟨f.toArray⟩,.string ⟨e.toArray⟩,.int .i64 most])] : List (Nat × Nat × Array Value)),W3.heap.size ≠ x.1):=Lib.hid (fun x hx h=>by have:=(FQ.out.l x hx).2.lt; omega)
    refine hK.out _ _ ⟨Q10.out.cell 0 0 rfl rfl,Q10.out.cell 0 1 rfl rfl,Q10.out.cell 0 2 rfl rfl⟩ (fun hHeld => ?_)
    clear hK
    try simp only [Act.put,List.setIfInBounds_toArray,List.set_cons_zero,List.set_cons_succ]
    generalize W3.alloc (.cells #[.slice none 0 0,.string ⟨#[]⟩,.slice none 0 0] 27) = V10 at Q10 M10 hHeld ⊢
    generalize W3.heap.size = pc at M10 HPc HPn ⊢
    refine wpAnyH_ready (rs := [0]) (by kernel_rfl) (by simp) ?_
    refine AllReadyH.cons rfl (fun K hK => ?_) AllReadyH.nil
    go_simp
    have Q11:=Live.hb Q10 ((Below.refl _ V10).alloc (Nat.le_refl _) (.cells #[] 77))
    have OB : Hid ((V10.alloc (.cells #[] 77)).ownsRow w.heap.size 77 2 (.slice (some ⟨V10.heap.size,0,none⟩) 0 0) 0 []):=Lib.hid (World.ownsRow_made V10 #[] 0 Q10.out.b.size (by simp only [maxLen]; omega) rfl)
    have M11:=Lib.hid (M10.out.below ((Below.refl _ V10).alloc (Nat.le_refl _) (.cells #[] 77)) M10.out.lt)
    refine hK.out _ _ ⟨Q11.out.cell 0 0 rfl rfl,Q11.out.cell 0 1 rfl rfl,Q11.out.cell 0 2 rfl rfl⟩ (fun hHeld => ?_)
    clear hK
    try simp only [Act.put,List.setIfInBounds_toArray,List.set_cons_zero,List.set_cons_succ]
    generalize V10.alloc (.cells #[] 77) = V11 at Q11 OB M11 hHeld ⊢
    generalize V10.heap.size = gb at OB ⊢
    refine wpAnyH_ready (rs := [3]) (by kernel_rfl) (by simp) ?_
    refine AllReadyH.cons rfl (fun K hK => ?_) AllReadyH.nil
    have RA12 : Reads V11 w.heap.size 2 A1 items.length (icells items):=HIr.out.below Q11.out.b
    refine step_append_any _ rfl _ _ 24 rfl w.heap.size 77 i0 _ 2 32 Tryz.underlying24 hi0 hz0 hz1 hz2 rfl (by decide) (.slice (some ⟨gb,0,none⟩) 0 0) 0 [] rfl OB.out w.heap.size A1 items.length c1 (icells items) rfl RA12 (icells_one _) (by simp only [maxLen]; omega) (by omega) Q11.out.b.size ?_
    intro v7 V12 own7 hg7' _
    have hg7 : V11.grownBy V12 (some gb):=⟨hg7'.os,hg7'.tape,hg7'.output,hg7'.size,hg7'.block⟩
    rw [Nat.zero_add,List.nil_append] at own7
    obtain ⟨A7,c7,rfl,_,_,_⟩:=own_form own7
    have Q12:=Live.hp Q11 OB.out (Nat.le_refl _) (by intro x hx; simp only [List.mem_cons,List.not_mem_nil,or_false] at hx; rcases hx with rfl | rfl <;> simp) hg7
    have OA:=Lib.hid own7
    have M12:=Lib.hid (M11.out.grown hg7 (fun e=>own_blk_ne OB.out M11.out (by simp) (by rw [e]; rfl)))
    clear own7 hg7 hg7' RA12 OB
    refine hK.out _ _ ⟨Q12.out.cell 0 0 rfl rfl,Q12.out.cell 0 1 rfl rfl,Q12.out.cell 0 2 rfl rfl⟩ (fun hHeld => ?_)
    clear hK
    try simp only [Act.put,List.setIfInBounds_toArray,List.set_cons_zero,List.set_cons_succ]
    refine wpAnyH_ready (rs := [8]) (by kernel_rfl) (by simp) ?_
    refine AllReadyH.cons rfl (fun K hK => ?_) AllReadyH.nil
    go_simp
    refine (book_Lend V12 B1 d1 nodes ((HNr.out.below Q12.out.b).more Q12.out.b.size) (by omega)).mono ?_
    rintro q V13 ⟨g8,c8,rfl,hc8,r8,hb⟩
    have Q13:=Live.hb Q12 hb
    have L13:=Lib.hid r8
    have HC8:=Lib.hid hc8
    have OA:=Lib.hid (own_below OA.out hb)
    have M13:=Lib.hid (M12.out.below hb M12.out.lt)
    clear hb r8 hc8
    refine hK.out _ _ ⟨Q13.out.cell 0 0 rfl rfl,Q13.out.cell 0 1 rfl rfl,Q13.out.cell 0 2 rfl rfl⟩ (fun hHeld => ?_)
    clear hK
    try simp only [Act.put,List.setIfInBounds_toArray,List.set_cons_zero,List.set_cons_succ]
    refine wpAnyH_take (i:=9) (oi:=⟨some 43,_,_,_,_,_⟩) (v := ?_) rfl (by kernel_rfl) (by kernel_rfl) (by kernel_rfl) (fun _ _ _ h=>h) (Or.inl ⟨by rfl, ?_⟩) (by assumption) ?_
    rotate_left
    ·intro w hSw
     obtain ⟨q0,q1,q2⟩:=hSw
     go_simp
     first | done | with_reducible rfl
    try simp only [Act.put,List.setIfInBounds_toArray,List.set_cons_zero,List.set_cons_succ]
    refine wpAnyH_ready (rs := [11]) (by kernel_rfl) (by simp) ?_
    refine AllReadyH.cons rfl (fun K hK => ?_) AllReadyH.nil
    have d0 : V13.cell? ⟨pc,0,none⟩ = some (.slice none 0 0):=M13.out.cell 0
    have d1 : V13.cell? ⟨pc,1,none⟩ = some (.string ⟨#[]⟩):=M13.out.cell 1
    have d2 : V13.cell? ⟨pc,2,none⟩ = some (.slice none 0 0):=M13.out.cell 2
    have f0:=M13.out.frozen 0
    have f1:=M13.out.frozen 1
    have f2:=M13.out.frozen 2
    have FE:=lent_stored (nx:=nx) (c8:=c8) (items:=items) (nodes:=nodes) Q13 M13 HPc OA L13 HPn
    go_simp
    refine hK.out _ _ ⟨FE.out.1.cell 1 0 rfl rfl,FE.out.1.cell 1 1 rfl rfl,FE.out.1.cell 1 2 rfl rfl⟩ (fun hHeld => ?_)
    clear hK hHeld d0 d1 d2 f0 f1 f2
    try simp only [Act.put,List.setIfInBounds_toArray,List.set_cons_zero,List.set_cons_succ]
    refine wpAnyH_done (by kernel_rfl) ?_ _
    refine NoPanic.normal ?_
    generalize ((V13.setCell ⟨pc,0,none⟩ _).setCell ⟨pc,1,none⟩ _).setCell ⟨pc,2,none⟩ _ = WE at FE ⊢
    go_wp2_with fail
    go_meet
    exact ⟨pc,A7,c7,g8,c8,rfl,FE.out.1,FE.out.2.1,FE.out.2.2,HC8.out⟩
  case rest =>
   obtain ⟨pc,A7,c7,g8,c8,h7,h3,r7,r8,h8⟩:=hcut
   subst h7
   rename World=>w3
   have F3:=Lib.hid h3
   have R3:=Lib.hid r7
   have L3:=Lib.hid r8
   have HC8:=Lib.hid h8
   have HZ3:=Lib.hid F3.out.b.size
   have e1 : (s == s) = true:=by simp
   have e2 : ((cd : Int) == cd) = true:=by simp
   clear h3 r7 r8 h8 F2
   have k0_0 : w3.cell? ⟨pc,0,none⟩ = some (.slice A7 items.length c7):=F3.out.cell 0 0 rfl rfl; have k0_1 : w3.cell? ⟨pc,1,none⟩ = some (.string ⟨nx.toArray⟩):=F3.out.cell 0 1 rfl rfl; have k0_2 : w3.cell? ⟨pc,2,none⟩ = some (.slice (some ⟨g8,0,none⟩) nodes.length c8):=F3.out.cell 0 2 rfl rfl
   have k2_0 : w3.cell? ⟨bx,0,none⟩ = some (.string ⟨f.toArray⟩):=F3.out.cell 2 0 rfl rfl; have k2_1 : w3.cell? ⟨bx,1,none⟩ = some (.string ⟨e.toArray⟩):=F3.out.cell 2 1 rfl rfl; have k2_2 : w3.cell? ⟨bx,2,none⟩ = some (.int .i64 most):=F3.out.cell 2 2 rfl rfl
   go_wp2_with fail
   refine (HV.out w3 A7 c7 (some ⟨g8,0,none⟩) c8 R3.out (reads_pre L3.out (strv_length nodes)) (by have:=HC8.out; omega) (HTb.out.next F3.out.b)).mono ?_
   rintro q w4 ⟨A9,c9,rfl,own9,hb⟩
   have F4:=Live.hb F3 hb
   have B34:=Lib.hid hb
   have O4 : Hid (w4.ownsRow w3.heap.size 77 2 (.slice A9 l.length c9) l.length (icells l)):=Lib.hid own9
   clear own9 hb k0_0 k0_1 k0_2 k2_0 k2_1 k2_2 HV
   have k1_0 : w4.cell? ⟨pb,0,none⟩ = some (.slice A1 items.length c1):=F4.out.cell 1 0 rfl rfl; have k1_1 : w4.cell? ⟨pb,1,none⟩ = some (.string ⟨nx.toArray⟩):=F4.out.cell 1 1 rfl rfl; have k1_2 : w4.cell? ⟨pb,2,none⟩ = some (.slice B1 nodes.length d1):=F4.out.cell 1 2 rfl rfl
   have k2_0 : w4.cell? ⟨bx,0,none⟩ = some (.string ⟨f.toArray⟩):=F4.out.cell 2 0 rfl rfl; have k2_1 : w4.cell? ⟨bx,1,none⟩ = some (.string ⟨e.toArray⟩):=F4.out.cell 2 1 rfl rfl; have k2_2 : w4.cell? ⟨bx,2,none⟩ = some (.int .i64 most):=F4.out.cell 2 2 rfl rfl
   go_wp2_with fail
   refine (HRf.out w4 A1 c1 B1 d1 ((HIr.out.below F4.out.b).more F4.out.b.size) ((HNr.out.below F4.out.b).more F4.out.b.size) HDl.out (fun a h=>Nat.lt_of_lt_of_le (HBl.out a h) F4.out.b.size)).mono ?_
   rintro q w5 ⟨A10,c10,rfl,r10,hb⟩
   have F5:=Live.hb F4 hb
   have B35:=Lib.hid (B34.out.nxt hb)
   have O5:=Lib.hid (own_below O4.out hb)
   have R10 : Hid (Reads w5 w5.heap.size 2 A10 l.length (icells l)):=Lib.hid r10
   clear r10 hb k1_0 k1_1 k1_2 k2_0 k2_1 k2_2 HRf
   go_wp2_with fail
   refine (book_SameItems A9 A10 l.length l.length c9 c10 l l w5 (Reads.of_own O5.out) R10.out (by have:=HLl.out.1; omega) (by have:=HLl.out.1; omega)).mono ?_
   rw [decide_eq_true rfl]
   rintro q w6 ⟨rfl,hb⟩
   have F6:=Live.hb F5 hb
   have B36:=Lib.hid (B35.out.nxt hb)
   have O6:=Lib.hid (own_below O5.out hb)
   clear hb R10
   go_wp2_with fail
   refine (book_SpoilItems2 w6 w3.heap.size A9 l.length c9 _ O6.out B36.out.size (by have:=HLl.out.1; omega)).mono ?_
   rintro q w7 ⟨rfl,hg7⟩
   have F7:=Live.hp F6 O6.out HZ3.out (by intro x hx; simp only [List.mem_cons,List.not_mem_nil,or_false] at hx; rcases hx with rfl | rfl | rfl <;> simp) hg7
   have B37 : Hid (Below w3.heap.size w3 w7):=Lib.hid (B36.out.grown hg7 B36.out.size (fun k hk=>(O6.out.lt k hk).1))
   have R7:=Lib.hid ((R3.out.below B37.out).more B37.out.size)
   have L7:=Lib.hid ((L3.out.below B37.out).more B37.out.size)
   clear hg7
   have k0_0 : w7.cell? ⟨pc,0,none⟩ = some (.slice A7 items.length c7):=F7.out.cell 0 0 rfl rfl; have k0_1 : w7.cell? ⟨pc,1,none⟩ = some (.string ⟨nx.toArray⟩):=F7.out.cell 0 1 rfl rfl; have k0_2 : w7.cell? ⟨pc,2,none⟩ = some (.slice (some ⟨g8,0,none⟩) nodes.length c8):=F7.out.cell 0 2 rfl rfl
   have k1_0 : w7.cell? ⟨pb,0,none⟩ = some (.slice A1 items.length c1):=F7.out.cell 1 0 rfl rfl; have k1_1 : w7.cell? ⟨pb,1,none⟩ = some (.string ⟨nx.toArray⟩):=F7.out.cell 1 1 rfl rfl; have k1_2 : w7.cell? ⟨pb,2,none⟩ = some (.slice B1 nodes.length d1):=F7.out.cell 1 2 rfl rfl
   go_wp2_with fail
   refine (book_Kept w7 B1 g8 c8 d1 nodes L7.out HC8.out ((HNr.out.below F7.out.b).more F7.out.b.size) (by omega)).mono ?_
   rintro q w8 ⟨rfl,hb⟩
   have F8:=Live.hb F7 hb
   have R8:=Lib.hid ((R7.out.below hb).more hb.size)
   clear hb k0_0 k0_1 k0_2 k1_0 k1_1 k1_2
   have k0_0 : w8.cell? ⟨pc,0,none⟩ = some (.slice A7 items.length c7):=F8.out.cell 0 0 rfl rfl; have k0_1 : w8.cell? ⟨pc,1,none⟩ = some (.string ⟨nx.toArray⟩):=F8.out.cell 0 1 rfl rfl; have k0_2 : w8.cell? ⟨pc,2,none⟩ = some (.slice (some ⟨g8,0,none⟩) nodes.length c8):=F8.out.cell 0 2 rfl rfl
   have k1_0 : w8.cell? ⟨pb,0,none⟩ = some (.slice A1 items.length c1):=F8.out.cell 1 0 rfl rfl; have k1_1 : w8.cell? ⟨pb,1,none⟩ = some (.string ⟨nx.toArray⟩):=F8.out.cell 1 1 rfl rfl; have k1_2 : w8.cell? ⟨pb,2,none⟩ = some (.slice B1 nodes.length d1):=F8.out.cell 1 2 rfl rfl
   go_wp2_with fail
   refine (book_SameItems A7 A1 items.length items.length c7 c1 items items w8 R8.out ((HIr.out.below F8.out.b).more F8.out.b.size) (by omega) (by omega)).mono ?_
   rw [decide_eq_true rfl]
   rintro q w9 ⟨rfl,hb⟩
   have F9:=Live.hb F8 hb
   clear hb k0_0 k0_1 k0_2 k1_0 k1_1 k1_2
   go_wp2_with fail
   refine (HWk.out _ F9.out.b).mono ?_
   rintro q w10 ⟨rfl,hb⟩
   have F10:=Live.hb F9 hb
   go_wp2_with fail
   exact HP.out _ F10.out.b
end Go.Proofs.YtomnlhbioijfhaaGreatDoor
