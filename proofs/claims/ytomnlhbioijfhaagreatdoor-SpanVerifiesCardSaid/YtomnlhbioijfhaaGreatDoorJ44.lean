import Derived.Test.YtomnlhbioijfhaaGreatDoorJ42
import Derived.Test.YtomnlhbioijfhaaGreatDoorJ27
import Derived.Test.YtomnlhbioijfhaaGreatDoorJ20
import Derived.Test.YtomnlhbioijfhaaGreatDoorJ38
import Derived.Test.YtomnlhbioijfhaaGreatDoorJ32
import Derived.Test.YtomnlhbioijfhaaGreatDoorJ21
set_option linter.unusedSimpArgs false
set_option linter.unusedVariables false
namespace Go.Proofs.YtomnlhbioijfhaaGreatDoor
open Go.RowKit Go.Instr
attribute [local go_sem] ba_get ByteArray.mk_append_mk
attribute [local go_sem ↓] Go.wp_at_zero Go.wp_at_succ
def works14 : Trie.T:=(Trie.ofW .nil [([97], [49]),([98], [50]),([99], [51])]).1
theorem works14_of : Trie.ofW .nil [([97], [49]),([98], [50]),([99], [51])] = (works14,0):=Prod.ext rfl (by decide +kernel)
theorem Good.ofW14 : ∀ (l : List Trie.KV) (t : Trie.T),Trie.Good t → (Trie.ofW t l).2 = 0 → Trie.Good (Trie.ofW t l).1 ∧ Trie.count (Trie.ofW t l).1 ≤ Trie.count t + l.length
 | [],t,h,_=>⟨h,by simp [Trie.ofW]⟩
 | x :: l,t,h,hc=>by
  unfold Trie.ofW at hc ⊢
  by_cases hp : Trie.putCode x.1 x.2 = 0
  ·rw [if_pos hp] at hc ⊢
   obtain ⟨a1,a2,a3⟩:=Trie.putCode_zero hp
   obtain ⟨b1,b2⟩:=Good.ofW14 l _ (Trie.Good.put h a1 a2 a3) hc
   have:=Trie.count_put t (Nib.of x.1) x.2
   exact ⟨b1,by rw [List.length_cons]; omega⟩
  ·rw [if_neg hp] at hc
   exact absurd hc hp
theorem works14_good : Trie.Good works14 ∧ Trie.count works14 ≤ 3:=by
 have:=Good.ofW14 [([97], [49]),([98], [50]),([99], [51])] .nil Trie.Good.nil (by rw [works14_of])
 rw [works14_of] at this
 exact ⟨this.1,by have:=this.2; simp [Trie.count] at this; exact this⟩
theorem works14_items : Trie.itemsW works14 = [([97], [49]),([98], [50]),([99], [51])]:=by decide +kernel
theorem works14_p : Trie.pageW (Trie.itemsW works14) [98] [99] 5 = ([([98], [50])], []):=by rw [works14_items]; decide +kernel
theorem works14_q : Trie.pageW (Trie.itemsW works14) [98] [] 1 = ([([98], [50])], [98,0]):=by rw [works14_items]; decide +kernel
theorem works14_n : (Trie.pageN works14 [98] [99] 5).length = 3:=by
 unfold Trie.pageN
 rw [works14_p]
 rw [toldW,textsD,List.length_map]
 decide +kernel
set_option maxRecDepth 100000 in
set_option maxHeartbeats 4000000 in
theorem law14_works (w : World) (hT : Tbl w) :
  Calls Tryz.prog 7 #[] w fun e w'=>e = .returned (.bool true) ∧ Below w.heap.size w w':=by
 have HP : Hid (∀ w',Below w.heap.size w w' → (fun e w'=>e = Ending.returned (.bool true) ∧ Below w.heap.size w w') (Ending.returned (.bool true)) w'):=Lib.hid (fun W' a2=>⟨rfl,a2⟩)
 generalize (fun e w'=>e = Ending.returned (.bool true) ∧ Below w.heap.size w w') = P at HP ⊢
 have HTb:=Lib.hid hT
 have HW : Hid (∀ (W : World) f,Below W.heap.size W (W.alloc (.cells f 77))):=Lib.hid (fun W f=>by go_grown)
 clear hT
 go_enter Tryz.func7,Tryz.ntmps7
 go_wp2_with fail
 refine (trie_Of [([97], [49]),([98], [50]),([99], [51])] (by simp) (by simp) _ ?_ _ _ ?_).mono ?_
 ·exact HTb.out.next (by go_grown)
 ·exact reads_blk (Blk.new _ _ _) (by simp)
 rw [works14_of]
 rintro e w1 ⟨v1,rfl,hb1,hk1,_⟩
 have HB1 : Hid (Below w.heap.size w w1):=Lib.hid ((HW.out _ _).nxt hb1)
 have HK1:=Lib.hid (hk1 rfl)
 clear hb1 hk1
 obtain ⟨_,b1,x1,rfl,_⟩:=id HK1.out
 have HPa : Hid (∀ W,Below w1.heap.size w1 W → Calls Tryz.prog 32 #[.pointer (some ⟨b1,0,none⟩),.string ⟨#[98]⟩,.string ⟨#[99]⟩,.int .i64 5] W (fun e w' => ∃ A c B d,e = .returned (.tuple #[.agg #[.slice A 1 c,.string ⟨#[]⟩,.slice B 3 d],.int .i64 0]) ∧ Below W.heap.size W w')):=Lib.hid (fun W hW=>by
  have:=span_Prove W works14 _ (HK1.out.next hW) (by have:=works14_good.2; omega) [98] [99] (by simp) (by simp) 5 (by omega) (by omega)
  rw [works14_p] at this
  refine this.mono ?_
  rintro e w' ⟨A,c,B,d,rfl,_,_,_,_,hb⟩
  simp only [works14_n]
  exact ⟨A,c,B,d,rfl,hb⟩)
 obtain ⟨Nq,hNq⟩ : ∃ N,Trie.pageN works14 [98] [] 1 = N:=⟨_,rfl⟩
 have HNl : Hid (Nq.length ≤ 1000 ∧ ∀ x ∈ Nq,x.length ≤ 700):=Lib.hid (by
  rw [← hNq]
  unfold Trie.pageN
  refine ⟨?_,told_700m works14_good.1 _⟩
  rw [toldW,textsD,List.length_map]
  have h1:=Trie.goT_len (coverW (Nib.of [98]) (Nib.of (Trie.upToW (Trie.pageW (Trie.itemsW works14) [98] [] 1).2 [])) (Trie.upToW (Trie.pageW (Trie.itemsW works14) [98] [] 1).2 [])) works14 []
  have h2 : Trie.nodes works14 = 5:=by decide +kernel
  omega)
 have HPb : Hid (∀ W,Below w1.heap.size w1 W → Calls Tryz.prog 32 #[.pointer (some ⟨b1,0,none⟩),.string ⟨#[98]⟩,.string ⟨#[]⟩,.int .i64 1] W (PageEnd W ([([98], [50])], [98,0],Nq) 0)):=Lib.hid (fun W hW=>by
  have:=span_Prove W works14 _ (HK1.out.next hW) (by have:=works14_good.2; omega) [98] [] (by simp) (by simp) 1 (by omega) (by omega)
  rwa [works14_q,hNq] at this)
 have HVe : Hid (∀ W A c B d,Below w1.heap.size w1 W → Reads W W.heap.size 2 A 1 (icells [([98], [50])]) → Reads W W.heap.size 1 B Nq.length (strv Nq) → Nq.length ≤ d → Calls Tryz.prog 9 #[.string ⟨(Trie.sumT works14).toArray⟩,.string ⟨#[98]⟩,.string ⟨#[]⟩,.int .i64 1,.agg #[.slice A 1 c,.string ⟨#[98,0]⟩,.slice B Nq.length d]] W (ItemsTEnd W ([([98], [50])], [98,0],0))):=Lib.hid (fun W A c B d hW h1 h2 h3=>by
  have:=span_Verify W (Trie.sumT works14) [98] [] (by simp) (by simp) 1 (by omega) (by omega) [([98], [50])] A c h1 (by simp) [98,0] (by simp) Nq B d h2 h3 (by have:=HNl.out.1; omega) (fun x hx=>by have:=HNl.out.2 x hx; omega) (HTb.out.next (HB1.out.nxt hW))
  have hw:=Trie.span_whole works14_good.1 [98] [] 1 (by omega)
  rw [works14_q,hNq] at hw
  rwa [hw] at this)
 clear hNq
 generalize hsm : Trie.sumT works14 = sm at *
 have HSm:=Lib.hid hsm
 clear hsm
 have F1 : Hid (Live w1 w1 []):=Lib.hid (Live.start w1)
 go_wp2_with fail
 refine (HPa.out _ (Below.refl _ _)).mono ?_
 rintro e w2 ⟨A2,c2,B2,d2,rfl,hb⟩
 have F2:=Live.hb F1 hb
 clear hb HPa F1
 go_upto_region 5 with fail
 have F3:=Live.ha F2 #[.slice A2 1 c2,.string ⟨#[]⟩,.slice B2 3 d2] 27
 generalize World.alloc w2 _ = W3 at F3 ⊢
 generalize w2.heap.size = pa at F3 ⊢
 clear F2
 go_wp2_with fail
 refine (HPb.out _ F3.out.b).mono ?_
 rintro e w4 ⟨A4,c4,B4,d4,rfl,own4,hc4,ownN4,hd4,hb⟩
 have F4:=Live.hb F3 hb
 have R4:=Lib.hid (And.intro (Reads.of_own own4) (And.intro (Reads.of_own ownN4) hd4))
 clear hb own4 ownN4 hc4 hd4 HPb F3
 go_upto_region 6 with fail
 have F5:=Live.ha F4 #[.slice A4 1 c4,.string ⟨#[98,0]⟩,.slice B4 Nq.length d4] 27
 have R5:=Lib.hid (fun W (hW : Below (World.alloc w4 (.cells #[.slice A4 1 c4,.string ⟨#[98,0]⟩,.slice B4 Nq.length d4] 27)).heap.size (World.alloc w4 (.cells #[.slice A4 1 c4,.string ⟨#[98,0]⟩,.slice B4 Nq.length d4] 27)) W)=>have hb : Below w4.heap.size w4 W:=((Below.refl _ w4).alloc (Nat.le_refl _) _).nxt hW; And.intro ((R4.out.1.below hb).more hb.size) (And.intro ((R4.out.2.1.below hb).more hb.size) R4.out.2.2))
 generalize World.alloc w4 _ = W5 at F5 R5 ⊢
 generalize w4.heap.size = pb at F5 ⊢
 clear F4 R4
 have HRo : Hid (∀ W,Below w1.heap.size w1 W → Calls Tryz.prog 33 #[.pointer (some ⟨b1,0,none⟩)] W (Ret W (.string ⟨sm.toArray⟩))):=Lib.hid (fun W hW=>(trie_Root W works14 _ (HK1.out.next hW)).mono (by rw [HSm.out]; rintro e w' ⟨rfl,rfl⟩; exact ⟨rfl,Below.refl _ _⟩))
 have k0_0 : W5.cell? ⟨pb,0,none⟩ = some (.slice A4 1 c4):=F5.out.cell 0 0 rfl rfl; have k0_1 : W5.cell? ⟨pb,1,none⟩ = some (.string ⟨#[98,0]⟩):=F5.out.cell 0 1 rfl rfl; have k0_2 : W5.cell? ⟨pb,2,none⟩ = some (.slice B4 Nq.length d4):=F5.out.cell 0 2 rfl rfl
 go_region_held3 (fun w'=>w'.cell? ⟨pb,0,none⟩ = some (.slice A4 1 c4) ∧ w'.cell? ⟨pb,1,none⟩ = some (.string ⟨#[98,0]⟩) ∧ w'.cell? ⟨pb,2,none⟩ = some (.slice B4 Nq.length d4)) (first | go_keep | (refine ⟨?_, ?_, ?_⟩ <;> assumption)) (first
  | (go_at_call 33; refine (HRo.out _ (by first | exact F5.out.b | exact F5.out.b.drew)).mono ?_; rintro e w6 ⟨rfl,hb⟩; have B6 : Below W5.heap.size W5 w6:=(by first | exact hb | exact hb.start); have F6:=Live.hb F5 B6; have d0:=F6.out.cell 0 0 rfl rfl; have d1:=F6.out.cell 0 1 rfl rfl; have d2:=F6.out.cell 0 2 rfl rfl; clear hb)
  | (go_at_call 9; refine (HVe.out _ _ _ _ _ (by first | exact F6.out.b) (R5.out _ B6).1 (R5.out _ B6).2.1 (R5.out _ B6).2.2).mono ?_; rintro e w7 ⟨A7,c7,rfl,own7,hb⟩; have B7 : Below w6.heap.size w6 w7:=(by first | exact hb | exact hb.start); have F7:=Live.hb F6 B7; have O7:=Lib.hid own7; have g0:=F7.out.cell 0 0 rfl rfl; have g1:=F7.out.cell 0 1 rfl rfl; have g2:=F7.out.cell 0 2 rfl rfl; clear hb own7))
 have k1_0:=F7.out.cell 1 0 rfl rfl
 have k1_1:=F7.out.cell 1 1 rfl rfl
 have k1_2:=F7.out.cell 1 2 rfl rfl
 obtain ⟨ad,off,hA7,_,hcell⟩:=(Reads.of_own O7.out).form (by decide) (by decide)
 subst hA7
 have q1 : w7.cell? ⟨ad,off + 1,none⟩ = some (.string ⟨#[50]⟩):=hcell 1 (by decide)
 clear hcell
 go_wp2_with fail
 exact HP.out _ (HB1.out.nxt F7.out.b)
def okI (x : Trie.KV) : Prop:=x.1.length ≤ 100 ∧ x.2.length ≤ 100
def BigEnd (w : World) (items : List Trie.KV) (nx : List UInt8) (nodes : List (List UInt8)) (e : Ending) (w' : World) : Prop :=
 ∃ b,e = .returned (.bool b) ∧ Below w.heap.size w w' ∧ (b = false → items.length ≤ 40 ∧ (nodes.length ≤ 60 ∧ ∀ x ∈ nodes,x.length ≤ 700) ∧ (∀ x ∈ items,okI x) ∧ nx.length ≤ 100)
theorem few_said {l : List (List UInt8)} {n each : Nat} (h : fewW l n each = true) : l.length ≤ n ∧ ∀ x ∈ l,x.length ≤ each:=by
 unfold fewW at h
 simp only [Bool.and_eq_true,decide_eq_true_eq,List.all_eq_true] at h
 exact ⟨h.1,fun x hx=>h.2 x hx⟩
set_option maxRecDepth 100000 in
set_option maxHeartbeats 2000000 in
theorem law14_big (w : World) (items : List Trie.KV) (A : Option Addr) (c : Nat) (HR : Reads w w.heap.size 2 A items.length (icells items)) (nx : List UInt8) (nodes : List (List UInt8)) (B : Option Addr) (d : Nat) (HN : Reads w w.heap.size 1 B nodes.length (strv nodes)) :
  Calls Tryz.prog 6 #[.agg #[.slice A items.length c,.string ⟨nx.toArray⟩,.slice B nodes.length d]] w (BigEnd w items nx nodes):=by
 have HPt : Hid (∀ w',Below w.heap.size w w' → BigEnd w items nx nodes (.returned (.bool true)) w'):=Lib.hid (fun w' h=>⟨true,rfl,h,fun e=>by cases e⟩)
 have HPf : Hid (∀ w',Below w.heap.size w w' → items.length ≤ 40 → fewW nodes 60 700 = true → (∀ x ∈ items,okI x) → nx.length ≤ 100 → BigEnd w items nx nodes (.returned (.bool false)) w'):=Lib.hid (fun w' h h1 h2 h3 h4=>⟨false,rfl,h,fun _=>⟨h1,few_said h2,h3,h4⟩⟩)
 generalize BigEnd w items nx nodes = P at HPt HPf ⊢
 have HRR:=Lib.hid HR
 have HFw : Hid (∀ W,Below w.heap.size w W → Calls Tryz.prog 30 #[.slice B nodes.length d,.int .i64 60,.int .i64 700] W (Ret W (.bool (fewW nodes 60 700)))):=Lib.hid (fun W hW=>book_Few W B d nodes 60 700 ((HN.below hW).more hW.size) (by omega) (by omega))
 clear HR HN
 generalize fewW nodes 60 700 = fw at *
 go_enter Tryz.func6,Tryz.ntmps6
 go_upto_region 1 with fail
 obtain ⟨bp,hbp⟩ : ∃ bp,w.heap.size = bp:=⟨_,rfl⟩
 have F0 : Hid (Live w (w.alloc (.cells #[.slice A items.length c,.string ⟨nx.toArray⟩,.slice B nodes.length d] 27)) [(bp,27,#[.slice A items.length c,.string ⟨nx.toArray⟩,.slice B nodes.length d])]):=Lib.hid (by subst hbp; exact Live.one ((Below.refl _ _).alloc (Nat.le_refl _) _) (Nat.le_refl _) (Blk.new _ _ _))
 try rw [hbp]
 generalize w.alloc (.cells #[.slice A items.length c,.string ⟨nx.toArray⟩,.slice B nodes.length d] 27) = W0 at F0 ⊢
 clear hbp
 have k0_0 : W0.cell? ⟨bp,0,none⟩ = some (.slice A items.length c):=F0.out.cell 0 0 rfl rfl; have k0_1 : W0.cell? ⟨bp,1,none⟩ = some (.string ⟨nx.toArray⟩):=F0.out.cell 0 1 rfl rfl; have k0_2 : W0.cell? ⟨bp,2,none⟩ = some (.slice B nodes.length d):=F0.out.cell 0 2 rfl rfl
 by_cases hl : 40 < items.length
 ·have hl' : (40 : Int) < items.length:=by omega
  clear hl
  go_wp2_with fail
  exact HPt.out _ F0.out.b
 ·have hl' : ((40 : Int) < items.length) = False:=by simp; omega
  go_wp2_with fail
  refine (HFw.out _ F0.out.b).mono ?_
  rintro q w1 ⟨rfl,hb⟩
  have F1:=Live.hb F0 hb
  clear hb F0 k0_0 k0_1 k0_2 HFw
  have k0_0 : w1.cell? ⟨bp,0,none⟩ = some (.slice A items.length c):=F1.out.cell 0 0 rfl rfl; have k0_1 : w1.cell? ⟨bp,1,none⟩ = some (.string ⟨nx.toArray⟩):=F1.out.cell 0 1 rfl rfl; have k0_2 : w1.cell? ⟨bp,2,none⟩ = some (.slice B nodes.length d):=F1.out.cell 0 2 rfl rfl
  have HL:=Lib.hid (Nat.le_of_not_lt hl)
  clear hl
  cases fw with
  | false =>
   go_wp2_with fail
   exact HPt.out _ F1.out.b
  | true =>
   go_wp2_with fail
   have HR1 : Hid (Reads w1 w1.heap.size 2 A items.length (icells items)):=Lib.hid ((HRR.out.below F1.out.b).more F1.out.b.size)
   refine wp_loop_ghost_k (fun k a wr => ∀ Φ : Act → Prop,(∀ (s0 s4 s5 s6 s7 s8 s9 s10 s11 s12 s13 s14 s15 s16 s17 s18 s19 s20 s21 s22 s23 s24 s25 s26 s27 s28 s29 s30 s31 s32 s33 s34 s35 s36 s37 s38 s39 s40 s41 s42 : Value) (i : Nat),(i + k = items.length ∧ (∀ x ∈ items.take i,okI x) ∧ wr = w1) → Φ { tmps:=#[s0,.pointer (some ⟨bp,0,none⟩),.bool false,.int .i64 (i : Int),s4,s5,s6,s7,s8,s9,s10,s11,s12,s13,s14,s15,s16,s17,s18,s19,s20,s21,s22,s23,s24,s25,s26,s27,s28,s29,s30,s31,s32,s33,s34,s35,s36,s37,s38,s39,s40,s41,s42],defers := [] }) → Φ a) (items.length) ?_ ?_
   ·refine fun Φ hΦ=>hΦ _ _ _ _ _ _ _ _ _ _ _ _ _ _ _ _ _ _ _ _ _ _ _ _ _ _ _ _ _ _ _ _ _ _ _ _ _ _ _ _ (0) ?_
    exact ⟨by omega,by simp,rfl⟩
   ·intro k1 a1 wr1 hI1 J1 K1 hJ1 hK1
    refine hI1 (fun a=>Code.wp _ _ _ a _) ?_
    clear hI1 a1
    intro s0 s1 s2 s3 s4 s5 s6 s7 s8 s9 s10 s11 s12 s13 s14 s15 s16 s17 s18 s19 s20 s21 s22 s23 s24 s25 s26 s27 s28 s29 s30 s31 s32 s33 s34 s35 s36 s37 s38 s39 i hrel
    show Code.wp _ _ _ _ _
    obtain ⟨h1,h2,rfl⟩:=hrel
    have HI:=Lib.hid (And.intro h1 h2)
    clear h2
    by_cases hi : i < items.length
    ·obtain ⟨ad,off,rfl,hbl,hcell⟩:=item_cells HR1.out hi
     have r0:=(hcell _ (Below.refl _ _)).1
     have r1:=(hcell _ (Below.refl _ _)).2
     have hi0 : (i : Int) < items.length:=by omega
     have hi1 : (0 : Int) ≤ i:=by omega
     have hi40 : (i : Int) < 40:=by have:=HL.out; omega
     have HS : Hid (∀ (ok : okI items[i]), ∀ x ∈ items.take (i + 1),okI x):=Lib.hid (fun ok x hx=>by
      rw [List.take_succ_eq_append_getElem hi] at hx
      rcases List.mem_append.1 hx with hx | hx
      ·exact HI.out.2 x hx
      ·simp at hx; subst hx; exact ok)
     clear hcell hbl
     generalize items[i] = x at *
     by_cases hk : 100 < x.1.length
     ·have hk' : (100 : Int) < x.1.length:=by omega
      clear hk
      go_wp2_with fail
      exact HPt.out _ F1.out.b
     ·have hk' : ((100 : Int) < x.1.length) = False:=by simp; omega
      by_cases hv : 100 < x.2.length
      ·have hv' : (100 : Int) < x.2.length:=by omega
       clear hk hv
       go_wp2_with fail
       exact HPt.out _ F1.out.b
      ·have hv' : ((100 : Int) < x.2.length) = False:=by simp; omega
       have HO:=Lib.hid (HS.out ⟨by omega,by omega⟩)
       clear hk hv
       go_wp2_with fail
       refine Handed.intro (items.length - (i + 1)) ?_ (hJ1 _ _ _ (fun Φ hΦ=>hΦ _ _ _ _ _ _ _ _ _ _ _ _ _ _ _ _ _ _ _ _ _ _ _ _ _ _ _ _ _ _ _ _ _ _ _ _ _ _ _ _ (i + 1) ?_))
       ·have:=HI.out.1; omega
       exact ⟨by have:=HI.out.1; omega,HO.out,rfl⟩
    ·have hi0 : ((i : Int) < items.length) = False:=by simp; omega
     have HA : Hid (∀ x ∈ items,okI x):=Lib.hid (fun x hx=>HI.out.2 x (by rw [List.take_of_length_le (by omega)]; exact hx))
     clear hi h1
     by_cases hn : 100 < nx.length
     ·have hn' : (100 : Int) < nx.length:=by omega
      clear hn
      go_wp2_with fail
      exact HPt.out _ F1.out.b
     ·have hn' : ((100 : Int) < nx.length) = False:=by simp; omega
      go_wp2_with fail
      exact HPf.out _ F1.out.b HL.out (by trivial) HA.out (by omega)
end Go.Proofs.YtomnlhbioijfhaaGreatDoor
