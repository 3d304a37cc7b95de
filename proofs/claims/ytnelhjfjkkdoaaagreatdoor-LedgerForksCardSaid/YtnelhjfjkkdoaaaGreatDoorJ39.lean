import Derived.Test.YtnelhjfjkkdoaaaGreatDoorJ36
import Derived.Test.YtnelhjfjkkdoaaaGreatDoorJ38
set_option linter.unusedSimpArgs false
set_option linter.unusedVariables false
namespace Go.Proofs.YtnelhjfjkkdoaaaGreatDoor
open Go.RowKit Go.Instr
attribute [local go_sem] ba_get ByteArray.mk_append_mk
attribute [local go_sem ↓] Go.wp_at_zero Go.wp_at_succ
theorem info_len : (Tryz.prog.info? 149).map (fun i=>(i.zero,i.size,i.bytes)) = some (some (.agg #[.int .i64 0,.int .i64 0,.int .i64 0,.bool false,.string ⟨#[]⟩,.string ⟨#[]⟩,.string ⟨#[]⟩,.string ⟨#[]⟩,.string ⟨#[]⟩,.string ⟨#[]⟩,.slice none 0 0,.string ⟨#[]⟩,.slice none 0 0,.slice none 0 0,.pointer none,.slice none 0 0]),16,248):=by kernel_rfl
structure Frm (w w' : World) (lb : Nat) (o : Option Nat) : Prop where
 os : w'.os = w.os
 tape : w'.tape = w.tape
 output : w'.output = w.output
 size : w.heap.size ≤ w'.heap.size
 block : ∀ k,k < w.heap.size → k ≠ lb → some k ≠ o → w'.heap[k]? = w.heap[k]?
theorem Frm.below {w w' : World} {lb B : Nat} {o : Option Nat} (h : Frm w w' lb o) (hB : B ≤ lb) (ho : ∀ k,o = some k → B ≤ k) (hs : B ≤ w.heap.size) : Below B w w' :=
 ⟨h.os,h.tape,h.output,h.size,fun k hk=>h.block k (by omega) (by omega) (fun e=>by have:=ho k e.symm; omega)⟩
theorem Frm.refl (w : World) (lb : Nat) (o : Option Nat) : Frm w w lb o:=⟨rfl,rfl,rfl,Nat.le_refl _,fun _ _ _ _=>rfl⟩
theorem Frm.of_below {w w' : World} (h : Below w.heap.size w w') (lb : Nat) (o : Option Nat) : Frm w w' lb o:=⟨h.os,h.tape,h.output,h.size,fun k hk _ _=>h.block k hk⟩
theorem Frm.trans {a b c : World} {lb : Nat} {o : Option Nat} (h : Frm a b lb o) (h2 : Frm b c lb o) : Frm a c lb o :=
 ⟨h2.os.trans h.os,h2.tape.trans h.tape,h2.output.trans h.output,Nat.le_trans h.size h2.size,fun k hk h3 h4=>(h2.block k (Nat.lt_of_lt_of_le hk h.size) h3 h4).trans (h.block k hk h3 h4)⟩
theorem Frm.own {w w' : World} {o : Option Nat} (h : w.grownBy w' o) (lb : Nat) : Frm w w' lb o:=⟨h.os,h.tape,h.output,h.size,fun k hk _ h4=>h.block k hk h4⟩
theorem Frm.lb {w w' : World} {lb : Nat} (h : w.grownBy w' (some lb)) (o : Option Nat) : Frm w w' lb o:=⟨h.os,h.tape,h.output,h.size,fun k hk h3 _=>h.block k hk (fun e=>h3 (Option.some.inj e))⟩
theorem LgAt.from {w : World} {B lb : Nat} {g : LgM} (h : LgAt w B lb g) : B ≤ w.heap.size ∧ ∀ k,g.al.ownBlock = some k → B ≤ k ∧ k < w.heap.size:=⟨by have:=h.blk.lt; have:=h.lo; omega,fun k hk=>h.own.lt k hk⟩
theorem LgAt.far {w w' : World} {B lb b : Nat} {g : LgM} (h : LgAt w B lb g) (hg : w.grownBy w' (some b)) (hlb : b ≠ lb) (ho : g.al.ownBlock ≠ some b) (hx : ∀ e ∈ g.es,e.woff b) (hn : wofA g.nA g.nx.length b) (ht : ∃ ty cs,Blk w b ty cs ∧ ty ≠ 115 ∧ ty ≠ 136) : LgAt w' B lb g :=
 have own:=h.own.kept hg (.inr ho)
 { blk:=blk_grown h.blk hg (fun e=>hlb (Option.some.inj e).symm),own:=own,r:=Reads.of_own own,ok:=fun e he=>(h.ok e he).far hg (fun k hk=>by have:=Option.some.inj hk; subst this; exact ⟨hx e he,ht⟩),nr:=reads_woff h.nr hg (fun k hk=>by have:=Option.some.inj hk; subst this; exact hn),wf:=h.wf,rt:=h.rt,nx:=h.nx,lo:=h.lo,off:=h.off,noff:=h.noff }
def zeroHd : Hd:=⟨0,0,0,false, [], [], [], [], [], [], []⟩
def AddEnd (w : World) (B lb : Nat) (g : LgM) (q : En) (view : Int) (txs : List Ex.Tx) (e : Ending) (w' : World) : Prop :=
 ∃ (hd : Hd) (kA : Option Addr) (kc : Nat) (g' : LgM),e = .returned (.tuple #[.agg #[.int .i64 hd.hgt,.int .i64 hd.epo,.int .i64 hd.vw,.bool hd.last,.string ⟨hd.par.toArray⟩,.string ⟨hd.st.toArray⟩,.string ⟨hd.rc.toArray⟩,.string ⟨hd.tx.toArray⟩,.string ⟨hd.mem.toArray⟩,.string ⟨hd.nxt.toArray⟩,.slice kA hd.sk.length kc],.int .i64 (Led.makeC q view txs : Int)]) ∧ LgAt w' B lb g' ∧ Frm w w' lb g.al.ownBlock ∧ Reads w' w'.heap.size 1 kA hd.sk.length (strv hd.sk) ∧
  (Led.makeC q view txs = 0 → g'.L = g.L ++ [Led.makeE g.L q view txs] ∧ hd = (Led.makeE g.L q view txs).hd) ∧ (Led.makeC q view txs ≠ 0 → g' = g ∧ hd = zeroHd)
set_option maxRecDepth 100000 in
set_option maxHeartbeats 4000000 in
theorem led_Add (w : World) (B lb : Nat) (g : LgM) (h : LgAt w B lb g) (hT : Tbl w) (hfew : ∀ e ∈ g.L,Trie.count e.st ≤ 900) (n : Nat) (hn : g.es.length = n + 1) (p : LeM) (hp : g.es[n]'(by omega) = p) (view : Int) (tl : List TxM) (xA : Option Addr) (xc : Nat) (HT : TxsAt w xA tl) :
  Calls Tryz.prog 41 #[.pointer (some ⟨lb,0,none⟩),.int .i64 view,.slice xA tl.length xc] w (AddEnd w B lb g p.en view (tl.map (·.1))):=by
 have HPe : Hid (∀ (cd : Nat) w',Led.makeC p.en view (tl.map (·.1)) = cd → cd ≠ 0 → Below w.heap.size w w' → AddEnd w B lb g p.en view (tl.map (·.1)) (.returned (.tuple #[.agg #[.int .i64 0,.int .i64 0,.int .i64 0,.bool false,.string ⟨#[]⟩,.string ⟨#[]⟩,.string ⟨#[]⟩,.string ⟨#[]⟩,.string ⟨#[]⟩,.string ⟨#[]⟩,.slice none 0 0],.int .i64 (cd : Int)])) w'):=Lib.hid (fun cd w' e h1 hb=>⟨zeroHd,none,0,g,by rw [e]; rfl,h.next hb,Frm.of_below hb _ _,Reads.none_,fun h=>absurd (e.symm.trans h) h1,fun _=>⟨rfl,rfl⟩⟩)
 have HPo : Hid (∀ (hd : Hd) kA kc (g' : LgM) w',Led.makeC p.en view (tl.map (·.1)) = 0 → LgAt w' B lb g' → Frm w w' lb g.al.ownBlock → Reads w' w'.heap.size 1 kA hd.sk.length (strv hd.sk) → g'.L = g.L ++ [Led.makeE g.L p.en view (tl.map (·.1))] → hd = (Led.makeE g.L p.en view (tl.map (·.1))).hd → AddEnd w B lb g p.en view (tl.map (·.1)) (.returned (.tuple #[.agg #[.int .i64 hd.hgt,.int .i64 hd.epo,.int .i64 hd.vw,.bool hd.last,.string ⟨hd.par.toArray⟩,.string ⟨hd.st.toArray⟩,.string ⟨hd.rc.toArray⟩,.string ⟨hd.tx.toArray⟩,.string ⟨hd.mem.toArray⟩,.string ⟨hd.nxt.toArray⟩,.slice kA hd.sk.length kc],.int .i64 0])) w'):=Lib.hid (fun hd kA kc g' w' e h1 h2 h3 h4 h5=>⟨hd,kA,kc,g',by rw [e]; rfl,h1,h2,h3,fun _=>⟨h4,h5⟩,fun h=>absurd e h⟩)
 have HGr:=Lib.hid (fun W (hW : Below w.heap.size w W)=>led_grown W lb g (h.next hW).toLgRd (hT.next hW) hfew n hn p hp view tl xA xc (HT.next hW))
 have hpm : g.L[n]'(by rw [List.length_map]; omega) = p.en:=by rw [List.getElem_map,hp]
 have hl : g.L.length = n + 1:=by rw [List.length_map,hn]
 have HW2 : Hid (Led.makeC p.en view (tl.map (·.1)) = 0 → Led.Wf (g.L ++ [Led.makeE g.L p.en view (tl.map (·.1))]) ∧ Led.Rts (g.L ++ [Led.makeE g.L p.en view (tl.map (·.1))])):=Lib.hid (fun hc=>by
  have e:=Led.add_ok hl (p:=p.en) (by rw [List.getElem?_eq_getElem (by omega),hpm]) hc
  have a:=Led.addW_wf h.wf view (tl.map (·.1))
  have b:=Led.addW_rts h.wf h.rt view (tl.map (·.1))
  rw [e] at a b
  exact ⟨a,b⟩)
 unfold GrownEnd at HGr
 generalize AddEnd w B lb g p.en view (tl.map (·.1)) = P at HPe HPo ⊢
 generalize hME : Led.makeE g.L p.en view (tl.map (·.1)) = ME at *
 generalize hCC : Led.makeC p.en view (tl.map (·.1)) = cd at *
 have HH:=Lib.hid h
 have hle : g.es.length ≤ 1048577:=by have:=h.wf.le; rw [List.length_map] at this; exact this
 have HLe:=Lib.hid hle
 have SZE : Hid ((Tryz.prog.info? 149).map (·.size) = some 16):=Lib.hid (by kernel_rfl)
 have SZH : Hid ((Tryz.prog.info? 65).map (·.size) = some 11):=Lib.hid (by kernel_rfl)
 clear hME hCC hpm hl hle hfew hT HT hn hp h
 go_enter Tryz.func41,Tryz.ntmps41
 go_upto_region 1 with fail
 have F0:=Live.ha (Lib.hid (Live.start w)) #[.int .i64 0,.int .i64 0,.int .i64 0,.bool false,.string ⟨#[]⟩,.string ⟨#[]⟩,.string ⟨#[]⟩,.string ⟨#[]⟩,.string ⟨#[]⟩,.string ⟨#[]⟩,.slice none 0 0] 65
 generalize w.alloc (.cells #[.int .i64 0,.int .i64 0,.int .i64 0,.bool false,.string ⟨#[]⟩,.string ⟨#[]⟩,.string ⟨#[]⟩,.string ⟨#[]⟩,.string ⟨#[]⟩,.string ⟨#[]⟩,.slice none 0 0] 65) = W0 at F0 ⊢
 generalize hrb : w.heap.size = rb at F0 ⊢
 have HRB:=Lib.hid hrb
 clear hrb
 go_wp2_with fail
 refine (HGr.out _ F0.out.b).mono ?_
 rintro e w1 ⟨x,nA,nc,rfl,hb,hok,hno⟩
 have hlt0:=F0.out.lt 0 rfl
 have F1:=Live.hb F0 hb
 have HOk:=Lib.hid hok
 have HNo:=Lib.hid hno
 have HB1:=Lib.hid hb
 have HB0 : Hid (w.heap.size ≤ W0.heap.size):=Lib.hid F0.out.b.size
 have HB0r : Hid (rb < W0.heap.size):=Lib.hid (F0.out.lt 0 rfl)
 have HL0 : Hid (lb < W0.heap.size):=Lib.hid (by have h5:=HH.out.blk.lt; have h6:=F0.out.b.size; have h7:=HRB.out; omega)
 clear hb hok hno HGr hlt0
 obtain ⟨pl,hpl⟩ : ∃ z,lcell x = z:=⟨_,rfl⟩
 have HPE:=Lib.hid hpl
 have HL16 : Hid (pl.length = 16):=Lib.hid (by rw [← hpl]; rfl)
 rw [hpl]
 clear hpl
 have F2:=Live.ha F1 #[.int .i64 0,.int .i64 0,.int .i64 0,.bool false,.string ⟨#[]⟩,.string ⟨#[]⟩,.string ⟨#[]⟩,.string ⟨#[]⟩,.string ⟨#[]⟩,.string ⟨#[]⟩,.slice none 0 0,.string ⟨#[]⟩,.slice none 0 0,.slice none 0 0,.pointer none,.slice none 0 0] 149
 have TH : (w1.alloc (.cells #[.int .i64 0,.int .i64 0,.int .i64 0,.bool false,.string ⟨#[]⟩,.string ⟨#[]⟩,.string ⟨#[]⟩,.string ⟨#[]⟩,.string ⟨#[]⟩,.string ⟨#[]⟩,.slice none 0 0,.string ⟨#[]⟩,.slice none 0 0,.slice none 0 0,.pointer none,.slice none 0 0] 149)).there w1.heap.size 0 pl.toArray.size:=by have:=F2.out.there 0 16 rfl (by decide); simpa [HL16.out] using this
 have SZP : (Tryz.prog.info? 149).map (·.size) = some pl.toArray.size:=by simpa [HL16.out] using SZE.out
 have SZM : (Tryz.prog.info? 149).map (·.size) = some pl.length:=by rw [HL16.out]; exact SZE.out
 have ONP : Hid (pl.toArray.all (·.oneCell') = true):=Lib.hid (all_oneCell_toArray (by
  rw [← HPE.out]
  by_cases hc : cd = 0
  ·exact lcell_one x (HOk.out hc).2.1.t.one
  ·rw [HNo.out hc]; exact lcell_one zeroLe rfl))
 have ONQ:=ONP.out
 have F3:=Live.hall F2 0 pl rfl (by simpa using HL16.out.symm)
 obtain ⟨W3,h3⟩ : ∃ W,(w1.alloc (.cells #[.int .i64 0,.int .i64 0,.int .i64 0,.bool false,.string ⟨#[]⟩,.string ⟨#[]⟩,.string ⟨#[]⟩,.string ⟨#[]⟩,.string ⟨#[]⟩,.string ⟨#[]⟩,.slice none 0 0,.string ⟨#[]⟩,.slice none 0 0,.slice none 0 0,.pointer none,.slice none 0 0] 149)).setCells w1.heap.size 0 pl = W:=⟨_,rfl⟩
 rw [h3] at F3
 have H3:=Lib.hid h3
 have HB3 : Hid (Below W0.heap.size W0 W3):=Lib.hid (by
  have h5:=(Live.hall (Live.ha (Lib.hid (Live.start w1)) #[.int .i64 0,.int .i64 0,.int .i64 0,.bool false,.string ⟨#[]⟩,.string ⟨#[]⟩,.string ⟨#[]⟩,.string ⟨#[]⟩,.string ⟨#[]⟩,.string ⟨#[]⟩,.slice none 0 0,.string ⟨#[]⟩,.slice none 0 0,.slice none 0 0,.pointer none,.slice none 0 0] 149) 0 pl rfl (by simpa using HL16.out.symm)).out.b
  rw [h3] at h5
  exact HB1.out.nxt h5)
 have HB31 : Hid (Below w1.heap.size w1 W3):=Lib.hid (by
  have h5:=(Live.hall (Live.ha (Lib.hid (Live.start w1)) #[.int .i64 0,.int .i64 0,.int .i64 0,.bool false,.string ⟨#[]⟩,.string ⟨#[]⟩,.string ⟨#[]⟩,.string ⟨#[]⟩,.string ⟨#[]⟩,.string ⟨#[]⟩,.slice none 0 0,.string ⟨#[]⟩,.slice none 0 0,.slice none 0 0,.pointer none,.slice none 0 0] 149) 0 pl rfl (by simpa using HL16.out.symm)).out.b
  rw [h3] at h5
  exact h5)
 clear h3 F2 F1
 have hsz:=HL16.out
 go_upto_region 2 with ((with_reducible refine at_store 16 ?_); refine wpList_store_as rfl 149 _ _ rfl w1.heap.size 0 pl.toArray rfl rfl TH SZP ONQ W3 H3.out ?_)
 generalize hxb : w1.heap.size = xb at F3 ⊢
 have HXB:=Lib.hid hxb
 clear hxb TH ONQ SZP ONP
 by_cases hc : cd = 0
 rotate_left
 ·have hc1 : ((cd : Int) != 0) = true:=by simp; exact hc
  have HCn:=Lib.hid hc
  clear hc
  have TH : W3.there rb 0 11:=F3.out.there 1 11 rfl (by decide)
  have F9:=Live.hall F3 1 [.int .i64 0,.int .i64 0,.int .i64 0,.bool false,.string ⟨#[]⟩,.string ⟨#[]⟩,.string ⟨#[]⟩,.string ⟨#[]⟩,.string ⟨#[]⟩,.string ⟨#[]⟩,.slice none 0 0] rfl rfl
  have HG9 : W3.grownBy (W3.setCells rb 0 [.int .i64 0,.int .i64 0,.int .i64 0,.bool false,.string ⟨#[]⟩,.string ⟨#[]⟩,.string ⟨#[]⟩,.string ⟨#[]⟩,.string ⟨#[]⟩,.string ⟨#[]⟩,.slice none 0 0]) (some rb):=grown_setAll _ 0 _ (World.grownBy.refl _ _)
  have hr:=run_loadVar_mid (P:=Tryz.prog) (W3.setCells rb 0 [.int .i64 0,.int .i64 0,.int .i64 0,.bool false,.string ⟨#[]⟩,.string ⟨#[]⟩,.string ⟨#[]⟩,.string ⟨#[]⟩,.string ⟨#[]⟩,.string ⟨#[]⟩,.slice none 0 0]) rb 0 65 [.int .i64 0,.int .i64 0,.int .i64 0,.bool false,.string ⟨#[]⟩,.string ⟨#[]⟩,.string ⟨#[]⟩,.string ⟨#[]⟩,.string ⟨#[]⟩,.string ⟨#[]⟩,.slice none 0 0] _ (range_of_blk (F9.out.blk 1 rfl)) Tryz.underlying65 rfl SZH.out
  obtain ⟨W9,h9⟩ : ∃ W9,W3.setCells rb 0 (#[.int .i64 0,.int .i64 0,.int .i64 0,.bool false,.string ⟨#[]⟩,.string ⟨#[]⟩,.string ⟨#[]⟩,.string ⟨#[]⟩,.string ⟨#[]⟩,.string ⟨#[]⟩,.slice none 0 0] : Array Value).toList = W9:=⟨_,rfl⟩
  have h9b : W3.setCells rb 0 [.int .i64 0,.int .i64 0,.int .i64 0,.bool false,.string ⟨#[]⟩,.string ⟨#[]⟩,.string ⟨#[]⟩,.string ⟨#[]⟩,.string ⟨#[]⟩,.string ⟨#[]⟩,.slice none 0 0] = W9:=h9
  rw [h9b] at F9 hr HG9
  have H9:=Lib.hid h9
  have HG9:=Lib.hid HG9
  clear h9b h9
  go_wp2_with (((with_reducible refine at_store 21 ?_); refine wpList_store_as rfl 65 _ _ rfl rb 0 #[.int .i64 0,.int .i64 0,.int .i64 0,.bool false,.string ⟨#[]⟩,.string ⟨#[]⟩,.string ⟨#[]⟩,.string ⟨#[]⟩,.string ⟨#[]⟩,.string ⟨#[]⟩,.slice none 0 0] rfl rfl TH SZH.out (by simp [Value.oneCell']) W9 H9.out ?_))
  (try simp only [Exit.inBlock,Exit.then])
  refine bodyPost_ret (v:=.tuple #[.agg #[.int .i64 0,.int .i64 0,.int .i64 0,.bool false,.string ⟨#[]⟩,.string ⟨#[]⟩,.string ⟨#[]⟩,.string ⟨#[]⟩,.string ⟨#[]⟩,.string ⟨#[]⟩,.slice none 0 0],.int .i64 (cd : Int)]) (results_cell2 Tryz.results41 rfl hr rfl) rfl ?_
  exact HPe.out cd _ rfl HCn.out F9.out.b
 subst hc
 obtain ⟨hen,hxo,hrn,hfr⟩:=HOk.out rfl
 obtain ⟨hw2,hr2⟩:=HW2.out rfl
 rw [← hen] at hw2 hr2
 have HEn:=Lib.hid hen
 have HXo:=Lib.hid (hxo.next HB31.out)
 have HRn:=Lib.hid ((hrn.below HB31.out).more HB31.out.size)
 have HFr:=Lib.hid hfr
 have HW3:=Lib.hid (And.intro hw2 hr2)
 have HG3:=Lib.hid (HH.out.next F3.out.b)
 clear hen hxo hrn hfr hw2 hr2 HOk HNo HW2
 go_upto_region 4 with fail
 have RG : W3.rangeAt xb 0 pl:=range_of_blk (F3.out.blk 0 rfl)
 have HNE : Hid (xb ≠ lb):=Lib.hid (by have h5:=HL0.out; have h6:=HB1.out.size; have h7:=HXB.out; omega)
 have HFo : ∀ b,b < W0.heap.size → wofA g.nA g.nx.length b → x.woff b ∧ wofA nA x.en.nxt.length b:=HFr.out
 have HOX : Hid (x.woff lb ∧ ∀ k,g.al.ownBlock = some k → x.woff k):=Lib.hid ⟨(HFo lb HL0.out HH.out.noff.1).1,fun k hk=>(HFo k (by have h5:=(HH.out.own.lt k hk).2; have h6:=F3.out.b.size; have h7:=HB0.out; omega) (HH.out.noff.2 k hk)).1⟩
 have HON : Hid (wofA nA x.en.nxt.length lb ∧ ∀ k,g.al.ownBlock = some k → wofA nA x.en.nxt.length k):=Lib.hid ⟨(HFo lb HL0.out HH.out.noff.1).2,fun k hk=>(HFo k (by have h5:=(HH.out.own.lt k hk).2; have h7:=HB0.out; omega) (HH.out.noff.2 k hk)).2⟩
 have HXO2 : Hid (g.al.ownBlock ≠ some xb):=Lib.hid (fun e=>by have h5:=(HH.out.own.lt _ e).2; have h7:=HB0.out; have h6:=HB1.out.size; have h8:=HXB.out; omega)
 clear HFo
 go_cut [] (fun wx => ∃ (A4 : Option Addr) (c4 : Nat),LgAt wx B lb ⟨g.es ++ [x],A4,c4,x.en.nxt,nA,nc⟩ ∧ (Value.slice A4 (g.es.length + 1) c4).ownBlock ≠ some rb ∧ Frm W3 wx lb g.al.ownBlock ∧ wx.rangeAt xb 0 pl)
 case first =>
  refine wp_region_noPanic ?_
  refine wp_region_held_drew (S:=fun w'=>w'.rangeAt xb 0 pl) (by kernel_rfl) RG (fun hHeld => ?_)
  clear RG
  have F:=live_drew F3
  have G:=Lib.hid (HG3.out.next (w':=W3.drew) ⟨rfl,rfl,rfl,Nat.le_refl _,fun _ _=>rfl⟩)
  have XO:=Lib.hid (HXo.out.next (w':=W3.drew) ⟨rfl,rfl,rfl,Nat.le_refl _,fun _ _=>rfl⟩)
  have RN : Hid (Reads W3.drew W3.drew.heap.size 2 nA x.en.nxt.length (mcells x.en.nxt)):=Lib.hid ((HRn.out.below (w':=W3.drew) ⟨rfl,rfl,rfl,Nat.le_refl _,fun _ _=>rfl⟩).more (Nat.le_refl _))
  have FM : Hid (Frm W3 W3.drew lb g.al.ownBlock):=Lib.hid ⟨rfl,rfl,rfl,Nat.le_refl _,fun _ _ _ _=>rfl⟩
  generalize W3.drew = Wd at F G XO RN FM hHeld ⊢
  refine tk 0 23 rfl ?_
  try go_frame
  refine tk 1 24 rfl ?_
  try go_frame
  refine tk 2 25 rfl ?_
  try go_frame
  refine tk 3 26 rfl ?_
  try go_frame
  refine tk 4 27 rfl ?_
  try go_frame
  refine' wpAnyH_take (i:=6) (oi:=⟨some 29,_,_,_,_,_⟩) (v:=_) rfl (by kernel_rfl) (by kernel_rfl) (by kernel_rfl) (fun _ _ _ h=>h) (yieldsIf_load_mid (by rfl) _ _ rfl xb 0 rfl pl _ (fun w h=>h) Tryz.underlying149 rfl SZM) (by assumption) ?_
  try go_frame
  refine tk 9 32 rfl ?_
  try go_frame
  refine rd2 5 7 rfl rfl (fun K hK => ?_) (fun K hK => ?_)
  ·skip
   have kl:=G.out.blk.cell 0
   simp only [List.getElem?_toArray,List.getElem?_cons_zero] at kl
   go_simp
   refine hK.out _ _ (range_of_blk (F.out.blk 0 rfl)) (fun hHeld => ?_)
   clear hK K kl
   try go_frame
   refine rd1 7 rfl (fun K hK => ?_)
   go_simp
   generalize hF : List.foldl _ _ pl.zipIdx = cs
   have hF2 : cs = pl.toArray:=hF.symm.trans (foldl_set pl [.int .i64 0,.int .i64 0,.int .i64 0,.bool false,.string ⟨#[]⟩,.string ⟨#[]⟩,.string ⟨#[]⟩,.string ⟨#[]⟩,.string ⟨#[]⟩,.string ⟨#[]⟩,.slice none 0 0,.string ⟨#[]⟩,.slice none 0 0,.slice none 0 0,.pointer none,.slice none 0 0] [] (by rw [HL16.out]; rfl))
   subst hF2
   refine hK.out _ _ (World.rangeAt_alloc (range_of_blk (F.out.blk 0 rfl)) _) (fun hHeld => ?_)
   clear hK K hF
   try go_frame
   refine rd1 8 rfl (fun K hK => ?_)
   have hle:=HLe.out
   refine step_append_row Wd 149 pl rfl _ _ 145 rfl B 16 248 _ info_len Tryz.underlying145 rfl (by decide) g.al g.es.length (lcells g.es) rfl G.out.own 1 1 rfl HL16.out (fun u hu=>by rw [← HPE.out] at hu; exact lcell_one x XO.out.t.one u hu) (by simp only [maxLen]; omega) (by omega) B Wd (Below.refl _ _) (Nat.le_refl _) G.out.from.1 ?_
   intro v4 w4 own4 hb4 hg4 h5 h6
   obtain ⟨A4,c4,rfl,_,_,_⟩:=own_form own4
   have GR:=G.out.grow (nc:=nc) XO.out HW3.out.1 HW3.out.2 RN.out HOX.out HON.out (by rw [HPE.out]; exact own4) hg4 h5
   have b4 : Blk w4 lb 147 #[.slice g.aA g.es.length g.ac,.slice g.nA g.nx.length g.nc]:=blk_grown G.out.blk hg4 (fun e=>own_blk_ne G.out.own G.out.blk (by decide) e.symm)
   have b4x : Blk w4 xb 149 pl.toArray:=blk_grown (F.out.blk 0 rfl) hg4 (fun e=>HXO2.out e.symm)
   have r5 : (w4.setCell ⟨lb,0,none⟩ (.slice A4 (g.es.length + 1) c4)).rangeAt xb 0 pl:=World.rangeAt_setCells_apart (range_of_blk b4x) lb 0 [_] (.inl HNE.out)
   have r6 : ((w4.setCell ⟨lb,0,none⟩ (.slice A4 (g.es.length + 1) c4)).setCell ⟨lb,1,none⟩ (.slice nA x.en.nxt.length nc)).rangeAt xb 0 pl:=World.rangeAt_setCells_apart r5 lb 1 [_] (.inl HNE.out)
   have FM6 : Frm W3 ((w4.setCell ⟨lb,0,none⟩ (.slice A4 (g.es.length + 1) c4)).setCell ⟨lb,1,none⟩ (.slice nA x.en.nxt.length nc)) lb g.al.ownBlock:=(FM.out.trans (Frm.own hg4 lb)).trans (Frm.lb (grown_cell (grown_cell (World.grownBy.refl w4 (some lb)) 0 _) 1 _) _)
   have HOW : Hid ((Value.slice A4 (g.es.length + 1) c4).ownBlock ≠ some rb):=Lib.hid (fun e=>by
    have h8:=F.out.lt 1 rfl
    have h9 : rb < Wd.heap.size:=h8
    rcases h5 with h5 | ⟨q,h5,hq⟩
    ·have h7:=(HH.out.own.lt rb (h5.symm.trans e)).2
     have h6:=HRB.out
     omega
    ·have h7:=Option.some.inj (h5.symm.trans e)
     omega)
   have GR:=Lib.hid GR
   have FM6:=Lib.hid FM6
   have R6:=Lib.hid (And.intro r5 r6)
   refine hK.out _ _ (range_of_blk b4x) (fun hHeld => ?_)
   clear hK K r5 r6
   try go_frame
   have kc0 : w4.cell? ⟨lb,0,none⟩ = some (.slice g.aA g.es.length g.ac):=b4.cell 0
   have kc1 : w4.cell? ⟨lb,1,none⟩ = some (.slice g.nA g.nx.length g.nc):=b4.cell 1
   have fz0 : w4.frozen? ⟨lb,0,none⟩ = false:=b4.frozen 0
   have fz1 : w4.frozen? ⟨lb,1,none⟩ = false:=b4.frozen 1
   clear own4 hb4 hg4 h5 h6 b4 b4x
   refine tk 10 33 rfl ?_
   try go_frame
   refine tk 11 34 rfl ?_
   try go_frame
   refine rd1 12 rfl (fun K hK => ?_)
   go_simp
   refine hK.out _ _ R6.out.1 (fun hHeld => ?_)
   clear hK K
   try go_frame
   refine tk 13 35 rfl ?_
   try go_frame
   refine tk 14 36 rfl ?_
   try go_frame
   refine rd1 15 rfl (fun K hK => ?_)
   go_simp
   refine hK.out _ _ R6.out.2 (fun hHeld => ?_)
   clear hK K
   try go_frame
   refine wpAnyH_done (by kernel_rfl) ?_ _
   refine NoPanic.normal ?_
   go_wp2_with fail
   go_meet
   exact ⟨_,_,GR.out,HOW.out,FM6.out,R6.out.2⟩
  ·skip
   go_simp
   generalize hF : List.foldl _ _ pl.zipIdx = cs
   have hF2 : cs = pl.toArray:=hF.symm.trans (foldl_set pl [.int .i64 0,.int .i64 0,.int .i64 0,.bool false,.string ⟨#[]⟩,.string ⟨#[]⟩,.string ⟨#[]⟩,.string ⟨#[]⟩,.string ⟨#[]⟩,.string ⟨#[]⟩,.slice none 0 0,.string ⟨#[]⟩,.slice none 0 0,.slice none 0 0,.pointer none,.slice none 0 0] [] (by rw [HL16.out]; rfl))
   subst hF2
   refine hK.out _ _ (World.rangeAt_alloc (range_of_blk (F.out.blk 0 rfl)) _) (fun hHeld => ?_)
   clear hK K hF
   try go_frame
   refine rd1 5 rfl (fun K hK => ?_)
   have Ga:=G.out.next ((Below.refl _ Wd).alloc (Nat.le_refl _) (.cells pl.toArray 149))
   have kl:=Ga.blk.cell 0
   simp only [List.getElem?_toArray,List.getElem?_cons_zero] at kl
   go_simp
   refine hK.out _ _ (World.rangeAt_alloc (range_of_blk (F.out.blk 0 rfl)) _) (fun hHeld => ?_)
   clear hK K kl Ga
   try go_frame
   refine rd1 8 rfl (fun K hK => ?_)
   have hle:=HLe.out
   refine step_append_row Wd 149 pl rfl _ _ 145 rfl B 16 248 _ info_len Tryz.underlying145 rfl (by decide) g.al g.es.length (lcells g.es) rfl G.out.own 1 1 rfl HL16.out (fun u hu=>by rw [← HPE.out] at hu; exact lcell_one x XO.out.t.one u hu) (by simp only [maxLen]; omega) (by omega) B Wd (Below.refl _ _) (Nat.le_refl _) G.out.from.1 ?_
   intro v4 w4 own4 hb4 hg4 h5 h6
   obtain ⟨A4,c4,rfl,_,_,_⟩:=own_form own4
   have GR:=G.out.grow (nc:=nc) XO.out HW3.out.1 HW3.out.2 RN.out HOX.out HON.out (by rw [HPE.out]; exact own4) hg4 h5
   have b4 : Blk w4 lb 147 #[.slice g.aA g.es.length g.ac,.slice g.nA g.nx.length g.nc]:=blk_grown G.out.blk hg4 (fun e=>own_blk_ne G.out.own G.out.blk (by decide) e.symm)
   have b4x : Blk w4 xb 149 pl.toArray:=blk_grown (F.out.blk 0 rfl) hg4 (fun e=>HXO2.out e.symm)
   have r5 : (w4.setCell ⟨lb,0,none⟩ (.slice A4 (g.es.length + 1) c4)).rangeAt xb 0 pl:=World.rangeAt_setCells_apart (range_of_blk b4x) lb 0 [_] (.inl HNE.out)
   have r6 : ((w4.setCell ⟨lb,0,none⟩ (.slice A4 (g.es.length + 1) c4)).setCell ⟨lb,1,none⟩ (.slice nA x.en.nxt.length nc)).rangeAt xb 0 pl:=World.rangeAt_setCells_apart r5 lb 1 [_] (.inl HNE.out)
   have FM6 : Frm W3 ((w4.setCell ⟨lb,0,none⟩ (.slice A4 (g.es.length + 1) c4)).setCell ⟨lb,1,none⟩ (.slice nA x.en.nxt.length nc)) lb g.al.ownBlock:=(FM.out.trans (Frm.own hg4 lb)).trans (Frm.lb (grown_cell (grown_cell (World.grownBy.refl w4 (some lb)) 0 _) 1 _) _)
   have HOW : Hid ((Value.slice A4 (g.es.length + 1) c4).ownBlock ≠ some rb):=Lib.hid (fun e=>by
    have h8:=F.out.lt 1 rfl
    have h9 : rb < Wd.heap.size:=h8
    rcases h5 with h5 | ⟨q,h5,hq⟩
    ·have h7:=(HH.out.own.lt rb (h5.symm.trans e)).2
     have h6:=HRB.out
     omega
    ·have h7:=Option.some.inj (h5.symm.trans e)
     omega)
   have GR:=Lib.hid GR
   have FM6:=Lib.hid FM6
   have R6:=Lib.hid (And.intro r5 r6)
   refine hK.out _ _ (range_of_blk b4x) (fun hHeld => ?_)
   clear hK K r5 r6
   try go_frame
   have kc0 : w4.cell? ⟨lb,0,none⟩ = some (.slice g.aA g.es.length g.ac):=b4.cell 0
   have kc1 : w4.cell? ⟨lb,1,none⟩ = some (.slice g.nA g.nx.length g.nc):=b4.cell 1
   have fz0 : w4.frozen? ⟨lb,0,none⟩ = false:=b4.frozen 0
   have fz1 : w4.frozen? ⟨lb,1,none⟩ = false:=b4.frozen 1
   clear own4 hb4 hg4 h5 h6 b4 b4x
   refine tk 10 33 rfl ?_
   try go_frame
   refine tk 11 34 rfl ?_
   try go_frame
   refine rd1 12 rfl (fun K hK => ?_)
   go_simp
   refine hK.out _ _ R6.out.1 (fun hHeld => ?_)
   clear hK K
   try go_frame
   refine tk 13 35 rfl ?_
   try go_frame
   refine tk 14 36 rfl ?_
   try go_frame
   refine rd1 15 rfl (fun K hK => ?_)
   go_simp
   refine hK.out _ _ R6.out.2 (fun hHeld => ?_)
   clear hK K
   try go_frame
   refine wpAnyH_done (by kernel_rfl) ?_ _
   refine NoPanic.normal ?_
   go_wp2_with fail
   go_meet
   exact ⟨_,_,GR.out,HOW.out,FM6.out,R6.out.2⟩
 case rest =>
 obtain ⟨A4,c4,hg',how,hfm,hrg⟩:=hcut
 have hR3 : rb < W3.heap.size:=F3.out.lt 1 rfl
 have hRL : rb ≠ lb:=by have h5:=HH.out.blk.lt; have h6:=HRB.out; omega
 have hRO : some rb ≠ g.al.ownBlock:=fun e=>by have h5:=(HH.out.own.lt rb e.symm).2; have h6:=HRB.out; omega
 have b0 : Blk wc rb 65 #[.int .i64 0,.int .i64 0,.int .i64 0,.bool false,.string ⟨#[]⟩,.string ⟨#[]⟩,.string ⟨#[]⟩,.string ⟨#[]⟩,.string ⟨#[]⟩,.string ⟨#[]⟩,.slice none 0 0]:=by
  unfold Blk
  rw [hfm.block rb hR3 hRL hRO]
  exact F3.out.blk 1 rfl
 have hxk:=hg'.ok x (by simp)
 have hsk : x.en.hd.sk.length ≤ 100000:=by
  have h5:=(HW3.out.1.one g.L.length (by simp)).ok.sk_le
  rw [List.getElem_append_right (Nat.le_refl _)] at h5
  simp only [Nat.sub_self,List.getElem_cons_zero] at h5
  omega
 have HSh:=Lib.hid (lg_shown wc x.en.hd x.kA x.kc hxk.k hsk)
 have RG : wc.rangeAt xb 0 [.int .i64 x.en.hd.hgt,.int .i64 x.en.hd.epo,.int .i64 x.en.hd.vw,.bool x.en.hd.last,.string ⟨x.en.hd.par.toArray⟩,.string ⟨x.en.hd.st.toArray⟩,.string ⟨x.en.hd.rc.toArray⟩,.string ⟨x.en.hd.tx.toArray⟩,.string ⟨x.en.hd.mem.toArray⟩,.string ⟨x.en.hd.nxt.toArray⟩,.slice x.kA x.en.hd.sk.length x.kc]:=fun j v hv=>hrg j v (by
  rw [← HPE.out]
  have hl : lcell x = [.int .i64 x.en.hd.hgt,.int .i64 x.en.hd.epo,.int .i64 x.en.hd.vw,.bool x.en.hd.last,.string ⟨x.en.hd.par.toArray⟩,.string ⟨x.en.hd.st.toArray⟩,.string ⟨x.en.hd.rc.toArray⟩,.string ⟨x.en.hd.tx.toArray⟩,.string ⟨x.en.hd.mem.toArray⟩,.string ⟨x.en.hd.nxt.toArray⟩,.slice x.kA x.en.hd.sk.length x.kc] ++ (lcell x).drop 11:=rfl
  rw [hl,List.getElem?_append_left (List.getElem?_eq_some_iff.1 hv).1]
  exact hv)
 have hwo : ∀ e ∈ g.es ++ [x],e.woff rb:=fun e he=>by
  rcases List.mem_append.1 he with he | he
  ·exact (HH.out.ok e he).new (Nat.le_of_eq HRB.out)
  ·rw [List.mem_singleton] at he
   subst he
   exact (HFr.out rb (by have h5:=HB0r.out; omega) (wofA.new HH.out.nr (Nat.le_of_eq HRB.out))).1
 have hno : wofA nA x.en.nxt.length rb:=(HFr.out rb (by have h5:=HB0r.out; omega) (wofA.new HH.out.nr (Nat.le_of_eq HRB.out))).2
 have HF:=Lib.hid (And.intro hg' (And.intro how (And.intro hfm (And.intro b0 (And.intro hwo (And.intro hno hRL))))))
 have HF3:=Lib.hid F3.out.b
 clear hg' how hfm hrg hR3 hRL hRO b0 hxk hsk hwo hno HFr F3 HG3 HXo HRn HOX HON
 go_wp2_with ((with_reducible refine at_load 38 ?_); refine wpList_load_mid rfl 65 _ rfl xb 0 rfl [.int .i64 x.en.hd.hgt,.int .i64 x.en.hd.epo,.int .i64 x.en.hd.vw,.bool x.en.hd.last,.string ⟨x.en.hd.par.toArray⟩,.string ⟨x.en.hd.st.toArray⟩,.string ⟨x.en.hd.rc.toArray⟩,.string ⟨x.en.hd.tx.toArray⟩,.string ⟨x.en.hd.mem.toArray⟩,.string ⟨x.en.hd.nxt.toArray⟩,.slice x.kA x.en.hd.sk.length x.kc] _ RG Tryz.underlying65 rfl SZH.out ?_)
 refine HSh.out.mono ?_
 rintro e w10 ⟨kA,kc,rfl,hb,hr10,hf10⟩
 obtain ⟨hg',how,hfm,b0,hwo,hno,hRL⟩:=HF.out
 have b10:=b0.below hb b0.lt
 have TH : w10.there rb 0 11:=blk_there b10 11 (by decide)
 have b9:=Blk.setAll [.int .i64 x.en.hd.hgt,.int .i64 x.en.hd.epo,.int .i64 x.en.hd.vw,.bool x.en.hd.last,.string ⟨x.en.hd.par.toArray⟩,.string ⟨x.en.hd.st.toArray⟩,.string ⟨x.en.hd.rc.toArray⟩,.string ⟨x.en.hd.tx.toArray⟩,.string ⟨x.en.hd.mem.toArray⟩,.string ⟨x.en.hd.nxt.toArray⟩,.slice kA x.en.hd.sk.length kc] [] [.int .i64 0,.int .i64 0,.int .i64 0,.bool false,.string ⟨#[]⟩,.string ⟨#[]⟩,.string ⟨#[]⟩,.string ⟨#[]⟩,.string ⟨#[]⟩,.string ⟨#[]⟩,.slice none 0 0] [] w10 rfl b10
 have HG9 : w10.grownBy (w10.setCells rb 0 [.int .i64 x.en.hd.hgt,.int .i64 x.en.hd.epo,.int .i64 x.en.hd.vw,.bool x.en.hd.last,.string ⟨x.en.hd.par.toArray⟩,.string ⟨x.en.hd.st.toArray⟩,.string ⟨x.en.hd.rc.toArray⟩,.string ⟨x.en.hd.tx.toArray⟩,.string ⟨x.en.hd.mem.toArray⟩,.string ⟨x.en.hd.nxt.toArray⟩,.slice kA x.en.hd.sk.length kc]) (some rb):=grown_setAll _ 0 _ (World.grownBy.refl _ _)
 have hr:=run_loadVar_mid (P:=Tryz.prog) (w10.setCells rb 0 [.int .i64 x.en.hd.hgt,.int .i64 x.en.hd.epo,.int .i64 x.en.hd.vw,.bool x.en.hd.last,.string ⟨x.en.hd.par.toArray⟩,.string ⟨x.en.hd.st.toArray⟩,.string ⟨x.en.hd.rc.toArray⟩,.string ⟨x.en.hd.tx.toArray⟩,.string ⟨x.en.hd.mem.toArray⟩,.string ⟨x.en.hd.nxt.toArray⟩,.slice kA x.en.hd.sk.length kc]) rb 0 65 [.int .i64 x.en.hd.hgt,.int .i64 x.en.hd.epo,.int .i64 x.en.hd.vw,.bool x.en.hd.last,.string ⟨x.en.hd.par.toArray⟩,.string ⟨x.en.hd.st.toArray⟩,.string ⟨x.en.hd.rc.toArray⟩,.string ⟨x.en.hd.tx.toArray⟩,.string ⟨x.en.hd.mem.toArray⟩,.string ⟨x.en.hd.nxt.toArray⟩,.slice kA x.en.hd.sk.length kc] _ (range_of_blk b9) Tryz.underlying65 rfl SZH.out
 have hrk : rb < w10.heap.size:=b10.lt
 have HLg:=Lib.hid ((hg'.next hb).far HG9 hRL (fun e=>how (by cases A4 <;> exact e)) hwo hno ⟨_,_,b10,by decide,by decide⟩)
 have HFm : Hid (Frm w (w10.setCells rb 0 [.int .i64 x.en.hd.hgt,.int .i64 x.en.hd.epo,.int .i64 x.en.hd.vw,.bool x.en.hd.last,.string ⟨x.en.hd.par.toArray⟩,.string ⟨x.en.hd.st.toArray⟩,.string ⟨x.en.hd.rc.toArray⟩,.string ⟨x.en.hd.tx.toArray⟩,.string ⟨x.en.hd.mem.toArray⟩,.string ⟨x.en.hd.nxt.toArray⟩,.slice kA x.en.hd.sk.length kc]) lb g.al.ownBlock):=Lib.hid (by
  have h5:=((Frm.of_below HF3.out lb g.al.ownBlock).trans hfm).trans ((Frm.of_below hb lb g.al.ownBlock))
  exact ⟨HG9.os.trans h5.os,HG9.tape.trans h5.tape,HG9.output.trans h5.output,Nat.le_trans h5.size HG9.size,fun k hk h3 h4=>(HG9.block k (Nat.lt_of_lt_of_le hk h5.size) (fun e=>by have h6:=Option.some.inj e; have h7:=HRB.out; omega)).trans (h5.block k hk h3 h4)⟩)
 have HRk:=Lib.hid (reads_off hr10 HG9 (fun a ha e=>by have h5:=hf10 a ha; have h6:=Option.some.inj e; have h7:=b0.lt; omega))
 obtain ⟨W9,h9⟩ : ∃ W9,w10.setCells rb 0 (#[.int .i64 x.en.hd.hgt,.int .i64 x.en.hd.epo,.int .i64 x.en.hd.vw,.bool x.en.hd.last,.string ⟨x.en.hd.par.toArray⟩,.string ⟨x.en.hd.st.toArray⟩,.string ⟨x.en.hd.rc.toArray⟩,.string ⟨x.en.hd.tx.toArray⟩,.string ⟨x.en.hd.mem.toArray⟩,.string ⟨x.en.hd.nxt.toArray⟩,.slice kA x.en.hd.sk.length kc] : Array Value).toList = W9:=⟨_,rfl⟩
 have h9b : w10.setCells rb 0 [.int .i64 x.en.hd.hgt,.int .i64 x.en.hd.epo,.int .i64 x.en.hd.vw,.bool x.en.hd.last,.string ⟨x.en.hd.par.toArray⟩,.string ⟨x.en.hd.st.toArray⟩,.string ⟨x.en.hd.rc.toArray⟩,.string ⟨x.en.hd.tx.toArray⟩,.string ⟨x.en.hd.mem.toArray⟩,.string ⟨x.en.hd.nxt.toArray⟩,.slice kA x.en.hd.sk.length kc] = W9:=h9
 rw [h9b] at hr HLg HFm HRk
 have H9:=Lib.hid h9
 clear h9b h9 hg' how hfm b0 hwo hno hRL b10 b9 HG9 hrk hr10 hf10 hb HSh HF RG
 go_wp2_with ((with_reducible refine at_store 39 ?_); refine wpList_store_as rfl 65 _ _ rfl rb 0 #[.int .i64 x.en.hd.hgt,.int .i64 x.en.hd.epo,.int .i64 x.en.hd.vw,.bool x.en.hd.last,.string ⟨x.en.hd.par.toArray⟩,.string ⟨x.en.hd.st.toArray⟩,.string ⟨x.en.hd.rc.toArray⟩,.string ⟨x.en.hd.tx.toArray⟩,.string ⟨x.en.hd.mem.toArray⟩,.string ⟨x.en.hd.nxt.toArray⟩,.slice kA x.en.hd.sk.length kc] rfl rfl TH SZH.out (by simp [Value.oneCell']) W9 H9.out ?_)
 (try simp only [Exit.inBlock,Exit.then])
 refine bodyPost_ret (v:=.tuple #[.agg #[.int .i64 x.en.hd.hgt,.int .i64 x.en.hd.epo,.int .i64 x.en.hd.vw,.bool x.en.hd.last,.string ⟨x.en.hd.par.toArray⟩,.string ⟨x.en.hd.st.toArray⟩,.string ⟨x.en.hd.rc.toArray⟩,.string ⟨x.en.hd.tx.toArray⟩,.string ⟨x.en.hd.mem.toArray⟩,.string ⟨x.en.hd.nxt.toArray⟩,.slice kA x.en.hd.sk.length kc],.int .i64 0]) (results_cell2 Tryz.results41 rfl hr rfl) rfl ?_
 exact HPo.out x.en.hd kA kc _ W9 (by first | exact trivial | rfl) HLg.out HFm.out HRk.out (by simp [LgM.L,HEn.out]) (by rw [HEn.out])
end Go.Proofs.YtnelhjfjkkdoaaaGreatDoor
