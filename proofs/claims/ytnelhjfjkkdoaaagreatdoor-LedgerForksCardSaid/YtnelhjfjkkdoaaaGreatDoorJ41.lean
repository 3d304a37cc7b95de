import Derived.Test.YtnelhjfjkkdoaaaGreatDoorJ40
import Derived.Test.YtnelhjfjkkdoaaaGreatDoorJ30
import Derived.Test.YtnelhjfjkkdoaaaGreatDoorJ34
set_option linter.unusedSimpArgs false
set_option linter.unusedVariables false
namespace Go.Proofs.YtnelhjfjkkdoaaaGreatDoor
open Go.RowKit Go.Instr
attribute [local go_sem] ba_get ByteArray.mk_append_mk
attribute [local go_sem ↓] Go.wp_at_zero Go.wp_at_succ
theorem Frm.blk {w w' : World} {lb : Nat} {o : Option Nat} (h : Frm w w' lb o) {b t : Nat} {cs : Array Value} (hb : Blk w b t cs) (h1 : b ≠ lb) (h2 : some b ≠ o) : Blk w' b t cs:=(h.block b hb.lt h1 h2).trans hb
theorem Led.add_parts {L : List En} {n : Nat} {q x : En} {view : Int} {txs : List Ex.Tx} (hn : L.length = n + 1) (hq : L[n]? = some q) (h : Led.addW L view txs = (L ++ [x],0)) : Led.makeC q view txs = 0 ∧ Led.makeE L q view txs = x:=by
 by_cases hc : Led.makeC q view txs = 0
 ·rw [Led.add_ok hn hq hc] at h
  exact ⟨hc,by simpa using h⟩
 ·have e : L[n]'(by omega) = q:=by rw [List.getElem?_eq_getElem (by omega)] at hq; exact Option.some.inj hq
  unfold Led.addW at h
  rw [Led.last_of hn,e] at h
  simp only at h
  rw [if_neg hc] at h
  exact absurd (congrArg (·.2) h) hc
def AddOkEnd (w : World) (B lb : Nat) (g : LgM) (x : En) (e : Ending) (w' : World) : Prop :=
 ∃ (kA : Option Addr) (kc : Nat) (g' : LgM),e = .returned (.tuple #[.agg #[.int .i64 x.hd.hgt,.int .i64 x.hd.epo,.int .i64 x.hd.vw,.bool x.hd.last,.string ⟨x.hd.par.toArray⟩,.string ⟨x.hd.st.toArray⟩,.string ⟨x.hd.rc.toArray⟩,.string ⟨x.hd.tx.toArray⟩,.string ⟨x.hd.mem.toArray⟩,.string ⟨x.hd.nxt.toArray⟩,.slice kA x.hd.sk.length kc],.int .i64 0]) ∧ LgAt w' B lb g' ∧ Frm w w' lb g.al.ownBlock ∧ g'.L = g.L ++ [x]
theorem led_Add_ok (w : World) (B lb : Nat) (g : LgM) (h : LgAt w B lb g) (hT : Tbl w) (hf : Led.Few g.L 900) (n : Nat) (hn : g.L.length = n + 1) (q : En) (hq : g.L[n]? = some q) (view : Int) (tl : List TxM) (xA : Option Addr) (xc : Nat) (HT : TxsAt w xA tl) (x : En)
  (ha : Led.addW g.L view (tl.map (·.1)) = (g.L ++ [x],0)) : Calls Tryz.prog 41 #[.pointer (some ⟨lb,0,none⟩),.int .i64 view,.slice xA tl.length xc] w (AddOkEnd w B lb g x):=by
 obtain ⟨c1,c2⟩:=Led.add_parts hn hq ha
 have hne : g.es.length = n + 1:=by rw [← hn,List.length_map]
 obtain ⟨p,hp⟩ : ∃ p,g.es[n]'(by omega) = p:=⟨_,rfl⟩
 have hpe : p.en = q:=by rw [List.getElem?_map,List.getElem?_eq_getElem (by omega),hp] at hq; exact Option.some.inj hq
 refine (led_Add w B lb g h hT hf n hne p hp view tl xA xc HT).mono ?_
 rintro e w' ⟨hd,kA,kc,g',he,hg,hfm,_,hy,_⟩
 rw [hpe] at he hy
 rw [c1] at he
 obtain ⟨y1,y2⟩:=hy c1
 rw [c2] at y1 y2
 subst y2
 exact ⟨kA,kc,g',he,hg,hfm,y1⟩
set_option maxRecDepth 100000 in
set_option maxHeartbeats 400000 in
theorem law20_works (w : World) (hT : Tbl w) :
  Calls Tryz.prog 34 #[] w fun e w'=>e = .returned (.bool true) ∧ Below w.heap.size w w':=by
 have HP : Hid (∀ w',Below w.heap.size w w' → (fun e w'=>e = Ending.returned (.bool true) ∧ Below w.heap.size w w') (Ending.returned (.bool true)) w'):=Lib.hid (fun W' a2=>⟨rfl,a2⟩)
 generalize (fun e w'=>e = Ending.returned (.bool true) ∧ Below w.heap.size w w') = P at HP ⊢
 have HTb:=Lib.hid hT
 obtain ⟨t,e1,e2,h1,a1,a2,q1,q2,q3,q4,q5,q6⟩:=Led.work20
 have HNw : Hid (∀ (W : World) A B,Below w.heap.size w W → Reads W W.heap.size 3 A 1 [.string ⟨#[114,111,111,116]⟩,.int .i64 0,.int .i64 0] → Reads W W.heap.size 2 B 1 [.string ⟨#[118]⟩,.int .i64 1] → Calls Tryz.prog 69 #[.slice A 1 1,.slice B 1 1] W (NewLEnd W Ex.wR Ex.wV)):=Lib.hid (fun W A B hW r1 r2 =>
  led_New W Ex.wR (by decide) A 1 r1 Ex.wV (by decide) B 1 r2 (hT.next hW))
 have HFew : Hid (Led.Few [Led.newE t Ex.wV] 9):=Lib.hid (by have:=Led.newE_few Ex.wR Ex.wV; rw [h1] at this; exact this)
 have HW1 : Hid (Led.Wf [Led.newE t Ex.wV]):=Lib.hid (by have h9:=Ex.genW_good Ex.wR Ex.wV; rw [h1] at h9; exact Led.newE_wf h9.1 (by have:=h9.2; simp only at this; omega) Ex.wV_ok)
 unfold NewLEnd at HNw
 rw [h1] at HNw
 have HQ:=Lib.hid (And.intro a1 (And.intro a2 (And.intro q1 (And.intro q2 (And.intro q3 (And.intro q4 (And.intro q5 q6)))))))
 clear hT h1 a1 a2 q1 q2 q3 q4 q5 q6
 go_enter Tryz.func34,Tryz.ntmps34
 go_upto_region 2 with fail
 have F0:=Live.ha (Live.ha (Lib.hid (Live.start w)) #[.string ⟨#[118]⟩,.int .i64 1] 165) #[.string ⟨#[119]⟩,.int .i64 1] 165
 rw [show (w.alloc (.cells #[.string ⟨#[118]⟩,.int .i64 1] 165)).heap.size = w.heap.size + 1 from by show (w.heap.push _).size = _; exact Array.size_push _] at F0
 generalize (w.alloc (.cells #[.string ⟨#[118]⟩,.int .i64 1] 165)).alloc (.cells #[.string ⟨#[119]⟩,.int .i64 1] 165) = W0 at F0 ⊢
 generalize hnb : w.heap.size + 1 = nb at F0 ⊢
 have F1:=Live.ha F0 #[.string ⟨#[114,111,111,116]⟩,.int .i64 0,.int .i64 0] 62
 clear hnb F0
 go_wp2_with fail
 generalize W0.alloc (.cells #[.string ⟨#[114,111,111,116]⟩,.int .i64 0,.int .i64 0] 62) = W1 at F1 ⊢
 generalize W0.heap.size = rb at F1 ⊢
 have HN1 : Hid (∀ W,Below W1.heap.size W1 W → Reads W W.heap.size 2 (some ⟨nb,0,none⟩) 1 [.string ⟨#[119]⟩,.int .i64 1]):=Lib.hid (fun W hW=>((reads_blk16 (F1.out.blk 1 rfl) (by simp)).below hW).more hW.size)
 refine (HNw.out _ _ _ F1.out.b (reads_blk16 (F1.out.blk 0 rfl) (by simp)) (reads_blk16 (F1.out.blk 2 rfl) (by simp))).mono ?_
 rintro e w2 ⟨v,rfl,hb,hok,_⟩
 obtain ⟨lb,g,rfl,hg,hgL⟩:=hok (by first | trivial | rfl)
 have F2:=Live.hb F1 hb
 have HG:=Lib.hid hg
 have HGL:=Lib.hid hgL
 have HB2:=Lib.hid hb
 clear hok hg hgL hb HNw
 go_upto_region 5 with fail
 have F3:=Live.ha (Lib.hid (Live.start w2)) #[.int .i64 4,.string ⟨#[114,111,111,116]⟩,.int .i64 0,.string ⟨#[]⟩,.int .i64 0,.string ⟨#[]⟩,.string ⟨#[]⟩,.slice (some ⟨nb,0,none⟩) 1 1] 80
 go_wp2_with fail
 generalize w2.alloc (.cells #[.int .i64 4,.string ⟨#[114,111,111,116]⟩,.int .i64 0,.string ⟨#[]⟩,.int .i64 0,.string ⟨#[]⟩,.string ⟨#[]⟩,.slice (some ⟨nb,0,none⟩) 1 1] 80) = w3 at F3 ⊢
 generalize w2.heap.size = xb at F3 ⊢
 have HG3:=Lib.hid (HG.out.next F3.out.b)
 have HB3:=Lib.hid (HB2.out.nxt F3.out.b)
 have HT3 : Hid (TxsAt w3 (some ⟨xb,0,none⟩) [(Ex.wX4,some ⟨nb,0,none⟩,1)]):=Lib.hid ⟨reads_blk16 (F3.out.blk 0 rfl) (by simp),fun p hp=>by
  simp only [List.mem_singleton] at hp
  subst hp
  exact HN1.out _ HB3.out,fun p hp=>by
  simp only [List.mem_singleton] at hp
  subst hp
  exact ⟨by simp [Ex.wX4],by simp [Ex.wX4],by simp [Ex.wX4],by simp [Ex.wX4],by show ∀ y ∈ Ex.wN,_; decide⟩,by simp⟩
 have HA3 : Hid (Calls Tryz.prog 41 #[.pointer (some ⟨lb,0,none⟩),.int .i64 1,.slice (some ⟨xb,0,none⟩) 1 1] w3 (AddOkEnd w3 W1.heap.size lb g e1)):=Lib.hid (led_Add_ok w3 W1.heap.size lb g HG3.out (HTb.out.next (F1.out.b.trans (HB3.out.mono F1.out.b.size))) (by rw [HGL.out]; exact HFew.out.mono (by omega)) 0 (by rw [HGL.out]; rfl) (Led.newE t Ex.wV) (by rw [HGL.out]; rfl) 1 _ (some ⟨xb,0,none⟩) 1 HT3.out e1 (by rw [HGL.out]; exact HQ.out.1))
 refine HA3.out.mono ?_
 rintro e w4 ⟨kA,kc,g2,rfl,hg,hfm,hL⟩
 have HG4:=Lib.hid hg
 have HL4 : Hid (g2.L = [Led.newE t Ex.wV,e1]):=Lib.hid (by rw [hL,HGL.out]; rfl)
 have HB4 : Hid (Below W1.heap.size W1 w4):=Lib.hid (HB3.out.trans (hfm.below HG3.out.lo (fun k hk=>(HG3.out.from.2 k hk).1) HG3.out.from.1))
 clear hg hfm hL HA3 HT3 F3 HG HGL HB2 F2 HB3 HG3
 go_upto_region 6 with fail
 have F5:=Live.ha (Lib.hid (Live.start w4)) #[.int .i64 e1.hd.hgt,.int .i64 e1.hd.epo,.int .i64 e1.hd.vw,.bool e1.hd.last,.string ⟨e1.hd.par.toArray⟩,.string ⟨e1.hd.st.toArray⟩,.string ⟨e1.hd.rc.toArray⟩,.string ⟨e1.hd.tx.toArray⟩,.string ⟨e1.hd.mem.toArray⟩,.string ⟨e1.hd.nxt.toArray⟩,.slice kA e1.hd.sk.length kc] 65
 have HLo : Hid (w4.heap.size ≠ lb ∧ some w4.heap.size ≠ g2.al.ownBlock):=Lib.hid ⟨by have:=HG4.out.blk.lt; omega,fun e=>by have:=(HG4.out.from.2 _ e.symm).2; omega⟩
 generalize w4.alloc (.cells #[.int .i64 e1.hd.hgt,.int .i64 e1.hd.epo,.int .i64 e1.hd.vw,.bool e1.hd.last,.string ⟨e1.hd.par.toArray⟩,.string ⟨e1.hd.st.toArray⟩,.string ⟨e1.hd.rc.toArray⟩,.string ⟨e1.hd.tx.toArray⟩,.string ⟨e1.hd.mem.toArray⟩,.string ⟨e1.hd.nxt.toArray⟩,.slice kA e1.hd.sk.length kc] 65) = w5 at F5 ⊢
 generalize w4.heap.size = ha at F5 HLo ⊢
 have HG5:=Lib.hid (HG4.out.next F5.out.b)
 have HB5:=Lib.hid (HB4.out.nxt F5.out.b)
 have HA5 : Hid (Calls Tryz.prog 41 #[.pointer (some ⟨lb,0,none⟩),.int .i64 1,.slice none 0 0] w5 (AddOkEnd w5 W1.heap.size lb g2 e2)):=Lib.hid (led_Add_ok w5 W1.heap.size lb g2 HG5.out (HTb.out.next (F1.out.b.trans (HB5.out.mono F1.out.b.size))) (by rw [HL4.out]; have h9:=Led.addW_few (l := [Led.newE t Ex.wV]) HW1.out HFew.out (by omega) 1 [Ex.wX4]; rw [HQ.out.1] at h9; exact h9.mono (by omega)) 1 (by rw [HL4.out]; rfl) e1 (by rw [HL4.out]; rfl) 1 [] none 0 (TxsAt.nil _) e2 (by rw [HL4.out]; exact HQ.out.2.1))
 go_wp2_with fail
 refine HA5.out.mono ?_
 rintro e w6 ⟨kB,kd,g3,rfl,hg,hfm,hL⟩
 have HL6 : Hid (g3.L = [Led.newE t Ex.wV,e1,e2]):=Lib.hid (by rw [hL,HL4.out]; rfl)
 have HB6 : Hid (Below W1.heap.size W1 w6):=Lib.hid (HB5.out.trans (hfm.below HG5.out.lo (fun k hk=>(HG5.out.from.2 k hk).1) HG5.out.from.1))
 have BA : Hid (Blk w6 ha 65 #[.int .i64 e1.hd.hgt,.int .i64 e1.hd.epo,.int .i64 e1.hd.vw,.bool e1.hd.last,.string ⟨e1.hd.par.toArray⟩,.string ⟨e1.hd.st.toArray⟩,.string ⟨e1.hd.rc.toArray⟩,.string ⟨e1.hd.tx.toArray⟩,.string ⟨e1.hd.mem.toArray⟩,.string ⟨e1.hd.nxt.toArray⟩,.slice kA e1.hd.sk.length kc]):=Lib.hid (hfm.blk (F5.out.blk 0 rfl) HLo.out.1 HLo.out.2)
 have HR6:=Lib.hid hg.toLgRd
 clear hg hfm hL HA5 F5 HLo HG4 HL4 HB4 HG5 HB5
 go_upto_region 7 with fail
 have F:=Live.ha (Lib.hid (Live.start w6)) #[.int .i64 e2.hd.hgt,.int .i64 e2.hd.epo,.int .i64 e2.hd.vw,.bool e2.hd.last,.string ⟨e2.hd.par.toArray⟩,.string ⟨e2.hd.st.toArray⟩,.string ⟨e2.hd.rc.toArray⟩,.string ⟨e2.hd.tx.toArray⟩,.string ⟨e2.hd.mem.toArray⟩,.string ⟨e2.hd.nxt.toArray⟩,.slice kB e2.hd.sk.length kd] 65
 generalize w6.alloc (.cells #[.int .i64 e2.hd.hgt,.int .i64 e2.hd.epo,.int .i64 e2.hd.vw,.bool e2.hd.last,.string ⟨e2.hd.par.toArray⟩,.string ⟨e2.hd.st.toArray⟩,.string ⟨e2.hd.rc.toArray⟩,.string ⟨e2.hd.tx.toArray⟩,.string ⟨e2.hd.mem.toArray⟩,.string ⟨e2.hd.nxt.toArray⟩,.slice kB e2.hd.sk.length kd] 65) = w7 at F ⊢
 have BA7 : Hid (∀ W,Below w7.heap.size w7 W → Blk W ha 65 #[.int .i64 e1.hd.hgt,.int .i64 e1.hd.epo,.int .i64 e1.hd.vw,.bool e1.hd.last,.string ⟨e1.hd.par.toArray⟩,.string ⟨e1.hd.st.toArray⟩,.string ⟨e1.hd.rc.toArray⟩,.string ⟨e1.hd.tx.toArray⟩,.string ⟨e1.hd.mem.toArray⟩,.string ⟨e1.hd.nxt.toArray⟩,.slice kA e1.hd.sk.length kc]):=Lib.hid (fun W hW=>(BA.out.below F.out.b BA.out.lt).below hW (Nat.lt_of_lt_of_le BA.out.lt F.out.b.size))
 have HR7:=Lib.hid (HR6.out.next F.out.b)
 have HB7:=Lib.hid (HB6.out.nxt F.out.b)
 have BB7 : Hid (∀ W,Below w7.heap.size w7 W → Blk W w6.heap.size 65 #[.int .i64 e2.hd.hgt,.int .i64 e2.hd.epo,.int .i64 e2.hd.vw,.bool e2.hd.last,.string ⟨e2.hd.par.toArray⟩,.string ⟨e2.hd.st.toArray⟩,.string ⟨e2.hd.rc.toArray⟩,.string ⟨e2.hd.tx.toArray⟩,.string ⟨e2.hd.mem.toArray⟩,.string ⟨e2.hd.nxt.toArray⟩,.slice kB e2.hd.sk.length kd]):=Lib.hid (fun W hW=>(F.out.blk 0 rfl).below hW (F.out.blk 0 rfl).lt)
 generalize w6.heap.size = hb at F BB7 ⊢
 have HSt : Hid (Calls Tryz.prog 37 #[.pointer (some ⟨lb,0,none⟩),.int .i64 3] w7 (ListEnd w7 2 1 (mcells Ex.wN))):=Lib.hid (by
  have hn : g3.nx = Ex.wN:=by
   obtain ⟨p,h1,h2⟩:=HR7.out.nx
   rw [HL6.out] at h1
   have:=Option.some.inj h1
   subst this
   rw [← h2]
   exact HQ.out.2.2.2.2.2.2.2
  have hl : g3.es.length = 3:=by have:=congrArg List.length HL6.out; rwa [List.length_map] at this
  have:=lg_Set_next w7 lb g3 HR7.out
  rw [hn,hl] at this
  exact this)
 clear BA HR6 HB6 HR7 F HL6
 go_wp2_with fail
 refine HSt.out.mono ?_
 rintro e w8 ⟨sA,sc,rfl,hb8,hr⟩
 have F:=Lib.hid (Live.start w8)
 have HDg : Hid (∀ W,Below w8.heap.size w8 W → Calls Tryz.prog 38 #[.slice (some ⟨nb,0,none⟩) 1 1] W (Ret W (.string ⟨(Pw.digM Ex.wN).toArray⟩))):=Lib.hid (fun W hW =>
  power_Digest W Ex.wN (by decide) (some ⟨nb,0,none⟩) 1 (HN1.out W ((HB7.out.nxt hb8).nxt hW)) (HTb.out.next (F1.out.b.trans (((HB7.out.nxt hb8).nxt hW).mono F1.out.b.size))))
 have BE:=Lib.hid (F1.out.b.trans ((HB7.out.nxt hb8).mono F1.out.b.size))
 obtain ⟨ad,off,hA,hbl,hcell⟩:=flat_cells (l:=Ex.wN) (f:=mcell) (k:=2) (fun _=>rfl) (by decide) hr (i:=0) (by decide)
 have r0 : Hid (∀ W,Below w8.heap.size w8 W → W.cell? ⟨ad,off,none⟩ = some (.string ⟨#[119]⟩)):=Lib.hid (fun W hW=>by have:=hcell W hW 0 (.string ⟨#[119]⟩) rfl; simpa using this)
 subst hA
 have BA:=Lib.hid (BA7.out w8 hb8)
 have BB:=Lib.hid (BB7.out w8 hb8)
 have HC : Hid (∀ W,Below w8.heap.size w8 W → W.cell? ⟨ha,1,none⟩ = some (.int .i64 1) ∧ W.cell? ⟨ha,3,none⟩ = some (.bool true) ∧ W.cell? ⟨hb,1,none⟩ = some (.int .i64 2) ∧ W.cell? ⟨hb,8,none⟩ = some (.string ⟨(Pw.digM Ex.wN).toArray⟩) ∧ W.cell? ⟨hb,3,none⟩ = some (.bool false) ∧ W.cell? ⟨ad,off,none⟩ = some (.string ⟨#[119]⟩)):=Lib.hid (fun W hW=>by
  have b1:=BA.out.below hW BA.out.lt
  have b2:=BB.out.below hW BB.out.lt
  refine ⟨?_, ?_, ?_, ?_, ?_,r0.out W hW⟩
  ·have:=b1.cell 1; rw [HQ.out.2.2.1] at this; exact this
  ·have:=b1.cell 3; rw [HQ.out.2.2.2.1] at this; exact this
  ·have:=b2.cell 1; rw [HQ.out.2.2.2.2.1] at this; exact this
  ·have:=b2.cell 8; rw [HQ.out.2.2.2.2.2.1] at this; exact this
  ·have:=b2.cell 3; rw [HQ.out.2.2.2.2.2.2.1] at this; exact this)
 generalize Pw.digM Ex.wN = D at HDg HC
 clear hb8 hr hcell hbl HSt BA7 BB7 HB7 HQ BA BB r0 HTb HN1 F1 HFew HW1
 go_upto_region 8 with fail
 refine wp_region_noPanic ?_
 refine wp_region_held_drew (S:=fun w'=>w'.cell? ⟨ha,1,none⟩ = some (.int .i64 1) ∧ w'.cell? ⟨ha,3,none⟩ = some (.bool true) ∧ w'.cell? ⟨hb,1,none⟩ = some (.int .i64 2) ∧ w'.cell? ⟨hb,8,none⟩ = some (.string ⟨D.toArray⟩) ∧ w'.cell? ⟨hb,3,none⟩ = some (.bool false) ∧ w'.cell? ⟨ad,off,none⟩ = some (.string ⟨#[119]⟩)) (by kernel_rfl) (HC.out _ (live_drew F).out.b) (fun hHeld => ?_)
 have F:=live_drew F
 generalize w8.drew = Wd at F hHeld ⊢
 try go_frame
 refine tk 0 46 rfl ?_
 try go_frame
 refine tk 1 47 rfl ?_
 try go_frame
 refine tk 2 48 rfl ?_
 try go_frame
 refine tk 3 49 rfl ?_
 try go_frame
 refine tk 4 50 rfl ?_
 try go_frame
 refine tk 5 51 rfl ?_
 try go_frame
 refine tk 6 52 rfl ?_
 try go_frame
 refine tk 7 53 rfl ?_
 try go_frame
 refine tk 8 54 rfl ?_
 try go_frame
 refine tk 9 55 rfl ?_
 try go_frame
 refine tk 10 56 rfl ?_
 try go_frame
 refine tk 11 57 rfl ?_
 try go_frame
 refine tk 12 58 rfl ?_
 try go_frame
 refine tk 13 59 rfl ?_
 try go_frame
 refine tk 14 60 rfl ?_
 try go_frame
 refine tk 15 61 rfl ?_
 try go_frame
 refine tk 16 62 rfl ?_
 try go_frame
 refine tk 17 63 rfl ?_
 try go_frame
 refine tk 18 64 rfl ?_
 try go_frame
 refine tk 19 65 rfl ?_
 try go_frame
 refine tk 20 66 rfl ?_
 try go_frame
 refine tk 21 67 rfl ?_
 try go_frame
 refine tk 22 68 rfl ?_
 try go_frame
 refine tk 23 69 rfl ?_
 try go_frame
 refine rd1 24 rfl (fun K hK => ?_)
 go_simp
 (with_reducible refine (HDg.out _ ?_).mono ?_)
 ·exact F.out.b
 rintro e Wc ⟨rfl,hbd⟩
 have F:=Live.hb F hbd
 clear hbd
 go_simp
 refine hK.out _ _ (HC.out _ F.out.b) (fun hHeld => ?_)
 clear hK K
 try go_frame
 refine tk 25 71 rfl ?_
 try go_frame
 refine tk 26 72 rfl ?_
 try go_frame
 refine tk 27 73 rfl ?_
 try go_frame
 refine tk 28 74 rfl ?_
 try go_frame
 refine tk 29 75 rfl ?_
 try go_frame
 refine tk 30 76 rfl ?_
 try go_frame
 refine tk 31 77 rfl ?_
 try go_frame
 refine tk 32 78 rfl ?_
 try go_frame
 refine tk 33 79 rfl ?_
 try go_frame
 refine tk 34 80 rfl ?_
 try go_frame
 refine tk 35 81 rfl ?_
 try go_frame
 refine tk 36 82 rfl ?_
 try go_frame
 refine tk 37 83 rfl ?_
 try go_frame
 refine tk 38 84 rfl ?_
 try go_frame
 refine tk 39 85 rfl ?_
 try go_frame
 refine tk 40 86 rfl ?_
 try go_frame
 refine tk 41 87 rfl ?_
 try go_frame
 refine tk 42 88 rfl ?_
 try go_frame
 refine tk 43 89 rfl ?_
 try go_frame
 refine tk 44 0 rfl ?_
 try go_frame
 refine wpAnyH_done (by kernel_rfl) ?_ _
 refine NoPanic.normal ?_
 go_wp2_with fail
 exact HP.out _ (BE.out.trans (F.out.b.mono BE.out.size))
end Go.Proofs.YtnelhjfjkkdoaaaGreatDoor
