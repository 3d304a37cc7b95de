import Derived.Test.YtnelhjfjkkdoaaaGreatDoorJ33
import Derived.Test.YtnelhjfjkkdoaaaGreatDoorJ23
import Derived.BigQuiet
set_option linter.unusedSimpArgs false
set_option linter.unusedVariables false
namespace Go.Proofs.YtnelhjfjkkdoaaaGreatDoor
open Go.RowKit Go.Instr
attribute [local go_sem] ba_get ByteArray.mk_append_mk
attribute [local go_sem ↓] Go.wp_at_zero Go.wp_at_succ
def ShownEnd (w : World) (h : Hd) (e : Ending) (w' : World) : Prop := ∃ kA kc,e = .returned (.agg #[.int .i64 h.hgt,.int .i64 h.epo,.int .i64 h.vw,.bool h.last,.string ⟨h.par.toArray⟩,.string ⟨h.st.toArray⟩,.string ⟨h.rc.toArray⟩,.string ⟨h.tx.toArray⟩,.string ⟨h.mem.toArray⟩,.string ⟨h.nxt.toArray⟩,.slice kA h.sk.length kc]) ∧ Below w.heap.size w w' ∧ Reads w' w'.heap.size 1 kA h.sk.length (strv h.sk) ∧ ∀ a,kA = some a → w.heap.size ≤ a.block
set_option maxRecDepth 100000 in
set_option maxHeartbeats 4000000 in
theorem lg_shown (w : World) (h : Hd) (A : Option Addr) (c : Nat) (HR : Reads w w.heap.size 1 A h.sk.length (strv h.sk)) (hl : h.sk.length ≤ 100000) : Calls Tryz.prog 71 #[.agg #[.int .i64 h.hgt,.int .i64 h.epo,.int .i64 h.vw,.bool h.last,.string ⟨h.par.toArray⟩,.string ⟨h.st.toArray⟩,.string ⟨h.rc.toArray⟩,.string ⟨h.tx.toArray⟩,.string ⟨h.mem.toArray⟩,.string ⟨h.nxt.toArray⟩,.slice A h.sk.length c]] w (ShownEnd w h):=by
 have HP : Hid (∀ kA kc w',Below w.heap.size w w' → Reads w' w'.heap.size 1 kA h.sk.length (strv h.sk) → (∀ a,kA = some a → w.heap.size ≤ a.block) → ShownEnd w h (.returned (.agg #[.int .i64 h.hgt,.int .i64 h.epo,.int .i64 h.vw,.bool h.last,.string ⟨h.par.toArray⟩,.string ⟨h.st.toArray⟩,.string ⟨h.rc.toArray⟩,.string ⟨h.tx.toArray⟩,.string ⟨h.mem.toArray⟩,.string ⟨h.nxt.toArray⟩,.slice kA h.sk.length kc])) w'):=Lib.hid (fun kA kc w' h1 h2 h3=>⟨kA,kc,rfl,h1,h2,h3⟩)
 generalize ShownEnd w h = P at HP ⊢
 have HCs:=Lib.hid (fun W (hW : Below w.heap.size w W)=>clone_strs W h.sk hl A c ((HR.below hW).more hW.size))
 have SZT : Hid ((Tryz.prog.info? 65).map (·.size) = some 11):=Lib.hid (by kernel_rfl)
 clear HR hl
 go_enter Tryz.func71,Tryz.ntmps71
 go_upto_region 1 with fail
 have F0:=Live.ha (Live.ha (Lib.hid (Live.start w)) #[.int .i64 h.hgt,.int .i64 h.epo,.int .i64 h.vw,.bool h.last,.string ⟨h.par.toArray⟩,.string ⟨h.st.toArray⟩,.string ⟨h.rc.toArray⟩,.string ⟨h.tx.toArray⟩,.string ⟨h.mem.toArray⟩,.string ⟨h.nxt.toArray⟩,.slice A h.sk.length c] 65) #[.int .i64 0,.int .i64 0,.int .i64 0,.bool false,.string ⟨#[]⟩,.string ⟨#[]⟩,.string ⟨#[]⟩,.string ⟨#[]⟩,.string ⟨#[]⟩,.string ⟨#[]⟩,.slice none 0 0] 65
 simp only [World.size_alloc] at F0
 generalize (w.alloc (.cells #[.int .i64 h.hgt,.int .i64 h.epo,.int .i64 h.vw,.bool h.last,.string ⟨h.par.toArray⟩,.string ⟨h.st.toArray⟩,.string ⟨h.rc.toArray⟩,.string ⟨h.tx.toArray⟩,.string ⟨h.mem.toArray⟩,.string ⟨h.nxt.toArray⟩,.slice A h.sk.length c] 65)).alloc (.cells #[.int .i64 0,.int .i64 0,.int .i64 0,.bool false,.string ⟨#[]⟩,.string ⟨#[]⟩,.string ⟨#[]⟩,.string ⟨#[]⟩,.string ⟨#[]⟩,.string ⟨#[]⟩,.slice none 0 0] 65) = W0 at F0 ⊢
 generalize hrb : w.heap.size + 1 = rb at F0 ⊢
 generalize hxb : w.heap.size = xb at F0 ⊢
 have HZ : Hid (xb < rb):=Lib.hid (by omega)
 have HX:=Lib.hid hxb
 clear hrb hxb
 have k10 : W0.cell? ⟨xb,10,none⟩ = some (.slice A h.sk.length c):=F0.out.cell 1 10 rfl rfl
 have HC1:=Lib.hid (HCs.out _ F0.out.b)
 go_wp2_with fail
 refine HC1.out.mono ?_
 rintro e W1 ⟨kA,kc,rfl,hb,hr,hk,_⟩
 have F1:=Live.hb F0 hb
 have hlt:=F0.out.lt 0 rfl
 have hlt2:=F0.out.lt 1 rfl
 have hsz : w.heap.size ≤ W0.heap.size:=F0.out.b.size
 have HK:=Lib.hid (And.intro hr (fun (a : Addr) (ha : kA = some a)=>show a.block ≠ xb ∧ a.block ≠ rb ∧ w.heap.size ≤ a.block from ⟨by have:=(hk a ha).1; omega,by have:=(hk a ha).1; omega,Nat.le_trans hsz (hk a ha).1⟩))
 clear hb hr hk k10 HC1 F0 hlt hlt2 HCs hsz
 have k10 : W1.cell? ⟨xb,10,none⟩ = some (.slice A h.sk.length c):=F1.out.cell 1 10 rfl rfl
 have fz : W1.frozen? ⟨xb,10,none⟩ = false:=F1.out.frozen 1 10 rfl
 go_upto_region 2 with fail
 have F2:=Live.hs F1 1 10 (.slice kA h.sk.length kc) rfl
 have R2:=Lib.hid (reads_off HK.out.1 (grown_cell (World.grownBy.refl W1 (some xb)) 10 (.slice kA h.sk.length kc)) (fun a ha e=>(HK.out.2 a ha).1 (Option.some.inj e)))
 simp only [List.set_cons_zero,List.setIfInBounds_toArray,List.set_cons_succ] at F2
 generalize W1.setCell ⟨xb,10,none⟩ (.slice kA h.sk.length kc) = W2 at F2 R2 ⊢
 clear k10 fz F1
 have RG : W2.rangeAt xb 0 [.int .i64 h.hgt,.int .i64 h.epo,.int .i64 h.vw,.bool h.last,.string ⟨h.par.toArray⟩,.string ⟨h.st.toArray⟩,.string ⟨h.rc.toArray⟩,.string ⟨h.tx.toArray⟩,.string ⟨h.mem.toArray⟩,.string ⟨h.nxt.toArray⟩,.slice kA h.sk.length kc]:=range_of_blk (F2.out.blk 1 rfl)
 have TH : W2.there rb 0 11:=F2.out.there 0 11 rfl (by decide)
 have F9 : Hid (Live w (W2.setCells rb 0 [.int .i64 h.hgt,.int .i64 h.epo,.int .i64 h.vw,.bool h.last,.string ⟨h.par.toArray⟩,.string ⟨h.st.toArray⟩,.string ⟨h.rc.toArray⟩,.string ⟨h.tx.toArray⟩,.string ⟨h.mem.toArray⟩,.string ⟨h.nxt.toArray⟩,.slice kA h.sk.length kc]) [(rb,65,#[.int .i64 h.hgt,.int .i64 h.epo,.int .i64 h.vw,.bool h.last,.string ⟨h.par.toArray⟩,.string ⟨h.st.toArray⟩,.string ⟨h.rc.toArray⟩,.string ⟨h.tx.toArray⟩,.string ⟨h.mem.toArray⟩,.string ⟨h.nxt.toArray⟩,.slice kA h.sk.length kc]),(xb,65,#[.int .i64 h.hgt,.int .i64 h.epo,.int .i64 h.vw,.bool h.last,.string ⟨h.par.toArray⟩,.string ⟨h.st.toArray⟩,.string ⟨h.rc.toArray⟩,.string ⟨h.tx.toArray⟩,.string ⟨h.mem.toArray⟩,.string ⟨h.nxt.toArray⟩,.slice kA h.sk.length kc])]):=Live.hall F2 0 _ rfl rfl
 have HG : W2.grownBy (W2.setCells rb 0 [.int .i64 h.hgt,.int .i64 h.epo,.int .i64 h.vw,.bool h.last,.string ⟨h.par.toArray⟩,.string ⟨h.st.toArray⟩,.string ⟨h.rc.toArray⟩,.string ⟨h.tx.toArray⟩,.string ⟨h.mem.toArray⟩,.string ⟨h.nxt.toArray⟩,.slice kA h.sk.length kc]) (some rb):=grown_setAll _ 0 _ (World.grownBy.refl _ _)
 have R9:=Lib.hid (reads_off R2.out HG (fun a ha e=>(HK.out.2 a ha).2.1 (Option.some.inj e)))
 have hr:=run_loadVar_mid (P:=Tryz.prog) (W2.setCells rb 0 [.int .i64 h.hgt,.int .i64 h.epo,.int .i64 h.vw,.bool h.last,.string ⟨h.par.toArray⟩,.string ⟨h.st.toArray⟩,.string ⟨h.rc.toArray⟩,.string ⟨h.tx.toArray⟩,.string ⟨h.mem.toArray⟩,.string ⟨h.nxt.toArray⟩,.slice kA h.sk.length kc]) rb 0 65 [.int .i64 h.hgt,.int .i64 h.epo,.int .i64 h.vw,.bool h.last,.string ⟨h.par.toArray⟩,.string ⟨h.st.toArray⟩,.string ⟨h.rc.toArray⟩,.string ⟨h.tx.toArray⟩,.string ⟨h.mem.toArray⟩,.string ⟨h.nxt.toArray⟩,.slice kA h.sk.length kc] _ (range_of_blk (F9.out.blk 0 rfl)) Tryz.underlying65 rfl SZT.out
 obtain ⟨W9,h9⟩ : ∃ W9,W2.setCells rb 0 (#[.int .i64 h.hgt,.int .i64 h.epo,.int .i64 h.vw,.bool h.last,.string ⟨h.par.toArray⟩,.string ⟨h.st.toArray⟩,.string ⟨h.rc.toArray⟩,.string ⟨h.tx.toArray⟩,.string ⟨h.mem.toArray⟩,.string ⟨h.nxt.toArray⟩,.slice kA h.sk.length kc] : Array Value).toList = W9:=⟨_,rfl⟩
 have h9b : W2.setCells rb 0 [.int .i64 h.hgt,.int .i64 h.epo,.int .i64 h.vw,.bool h.last,.string ⟨h.par.toArray⟩,.string ⟨h.st.toArray⟩,.string ⟨h.rc.toArray⟩,.string ⟨h.tx.toArray⟩,.string ⟨h.mem.toArray⟩,.string ⟨h.nxt.toArray⟩,.slice kA h.sk.length kc] = W9:=h9
 rw [h9b] at F9 hr R9
 have H9:=Lib.hid h9
 clear h9b h9 HG
 go_wp2_with (first | ((with_reducible refine at_load 7 ?_); refine wpList_load_mid rfl 65 _ rfl xb 0 rfl [.int .i64 h.hgt,.int .i64 h.epo,.int .i64 h.vw,.bool h.last,.string ⟨h.par.toArray⟩,.string ⟨h.st.toArray⟩,.string ⟨h.rc.toArray⟩,.string ⟨h.tx.toArray⟩,.string ⟨h.mem.toArray⟩,.string ⟨h.nxt.toArray⟩,.slice kA h.sk.length kc] _ RG Tryz.underlying65 rfl SZT.out ?_) | ((with_reducible refine at_store 7 ?_); refine wpList_store_as rfl 65 _ _ rfl rb 0 #[.int .i64 h.hgt,.int .i64 h.epo,.int .i64 h.vw,.bool h.last,.string ⟨h.par.toArray⟩,.string ⟨h.st.toArray⟩,.string ⟨h.rc.toArray⟩,.string ⟨h.tx.toArray⟩,.string ⟨h.mem.toArray⟩,.string ⟨h.nxt.toArray⟩,.slice kA h.sk.length kc] rfl rfl TH SZT.out (by simp [Value.oneCell']) W9 H9.out ?_))
 (try simp only [Exit.inBlock,Exit.then])
 refine bodyPost_ret (v:=.agg #[.int .i64 h.hgt,.int .i64 h.epo,.int .i64 h.vw,.bool h.last,.string ⟨h.par.toArray⟩,.string ⟨h.st.toArray⟩,.string ⟨h.rc.toArray⟩,.string ⟨h.tx.toArray⟩,.string ⟨h.mem.toArray⟩,.string ⟨h.nxt.toArray⟩,.slice kA h.sk.length kc]) (results_one_cell Tryz.results71 rfl hr) rfl ?_
 exact HP.out kA kc W9 F9.out.b R9.out (fun a ha=>(HK.out.2 a ha).2.2)
set_option maxRecDepth 100000 in
set_option maxHeartbeats 4000000 in
theorem lg_Height (w : World) (lb : Nat) (g : LgM) (h : LgRd w lb g) : Calls Tryz.prog 26 #[.pointer (some ⟨lb,0,none⟩)] w fun e w'=>e = .returned (.int .i64 ((g.es.length : Int) - 1)) ∧ w = w':=by
 have k0 : w.cell? ⟨lb,0,none⟩ = some (.slice g.aA g.es.length g.ac):=h.blk.cell 0
 have HP : Hid ((fun e w'=>e = Ending.returned (.int .i64 ((g.es.length : Int) - 1)) ∧ w = w') (Ending.returned (.int .i64 ((g.es.length : Int) - 1))) w):=Lib.hid ⟨rfl,rfl⟩
 generalize (fun e w'=>e = Ending.returned (.int .i64 ((g.es.length : Int) - 1)) ∧ w = w') = P at HP ⊢
 have hle : g.es.length ≤ 1048577:=by have:=h.wf.le; rw [List.length_map] at this; exact this
 have hwl : IntKind.i64.wrap ((g.es.length : Int) - 1) = (g.es.length : Int) - 1:=IntWalk.i64_in _ (by omega)
 clear h hle
 go_enter Tryz.func26,Tryz.ntmps26
 go_wp2_with fail
 exact HP.out
theorem lg_code (w : World) : Calls Tryz.prog 72 #[.bool true] w fun e w'=>e = .returned (.int .i64 0) ∧ w = w':=by
 have HP : Hid ((fun e w'=>e = Ending.returned (.int .i64 0) ∧ w = w') (Ending.returned (.int .i64 0)) w):=Lib.hid ⟨rfl,rfl⟩
 generalize (fun e w'=>e = Ending.returned (.int .i64 0) ∧ w = w') = P at HP ⊢
 go_enter Tryz.func72,Tryz.ntmps72
 go_wp2_with fail
 exact HP.out
set_option maxRecDepth 100000 in
set_option maxHeartbeats 4000000 in
theorem lg_at (w : World) (lb : Nat) (g : LgM) (h : LgRd w lb g) (n : Nat) (hn : n < g.es.length) (p : LeM) (hp : g.es[n] = p) : Calls Tryz.prog 70 #[.pointer (some ⟨lb,0,none⟩),.int .i64 (n : Int)] w (Ret w (.tuple #[.agg (lcell p).toArray,.bool true])):=by
 have HP : Hid (∀ w',Below w.heap.size w w' → Ret w (.tuple #[.agg (lcell p).toArray,.bool true]) (.returned (.tuple #[.agg (lcell p).toArray,.bool true])) w'):=Lib.hid (fun w' h=>⟨rfl,h⟩)
 generalize Ret w (.tuple #[.agg (lcell p).toArray,.bool true]) = P at HP ⊢
 obtain ⟨ad,off,hA,hbl,hcell⟩:=led_cells h.r hn
 rw [hp] at hcell
 have HK : Hid (∀ W,Below w.heap.size w W → W.cell? ⟨lb,0,none⟩ = some (.slice g.aA g.es.length g.ac)):=Lib.hid (fun W hW=>(h.blk.below hW h.blk.lt).cell 0)
 have HRg : Hid (∀ W,Below w.heap.size w W → W.rangeAt ad (off + n * 16) (lcell p)):=Lib.hid (fun W hW j v hv=>hcell W hW j v hv)
 have hone : ∀ u ∈ lcell p,u.oneCell' = true:=lcell_one p (h.ok p (by rw [← hp]; exact List.getElem_mem _)).t.one
 simp only [hA] at HK
 have hi1 : (n : Int) < (g.es.length : Int):=by omega
 have hi0 : (0 : Int) ≤ n:=by omega
 have hi2 : ((n : Int) < 0) = False:=by simp
 have hi3 : ((g.es.length : Int) ≤ (n : Int)) = False:=by simp; omega
 have SZE : Hid ((Tryz.prog.info? 149).map (·.size) = some 16):=Lib.hid (by kernel_rfl)
 have HL : Hid ((lcell p).length = 16):=Lib.hid rfl
 clear h hp hcell hbl hA hn
 generalize lcell p = pl at *
 generalize g.es.length = m at *
 have ONP:=all_oneCell_toArray hone
 clear hone
 go_enter Tryz.func70,Tryz.ntmps70
 go_upto_region 1 with fail
 have F0:=Live.ha (Lib.hid (Live.start w)) #[.int .i64 0,.int .i64 0,.int .i64 0,.bool false,.string ⟨#[]⟩,.string ⟨#[]⟩,.string ⟨#[]⟩,.string ⟨#[]⟩,.string ⟨#[]⟩,.string ⟨#[]⟩,.slice none 0 0,.string ⟨#[]⟩,.slice none 0 0,.slice none 0 0,.pointer none,.slice none 0 0] 149
 generalize w.alloc (.cells #[.int .i64 0,.int .i64 0,.int .i64 0,.bool false,.string ⟨#[]⟩,.string ⟨#[]⟩,.string ⟨#[]⟩,.string ⟨#[]⟩,.string ⟨#[]⟩,.string ⟨#[]⟩,.slice none 0 0,.string ⟨#[]⟩,.slice none 0 0,.slice none 0 0,.pointer none,.slice none 0 0] 149) = W0 at F0 ⊢
 generalize w.heap.size = rb at F0 ⊢
 have k0:=HK.out _ F0.out.b
 have RG:=HRg.out _ F0.out.b
 have SZL : (Tryz.prog.info? 149).map (·.size) = some pl.length:=by rw [HL.out]; exact SZE.out
 have TH : W0.there rb 0 pl.toArray.size:=by have:=F0.out.there 0 16 rfl (by decide); simpa [HL.out] using this
 have SZP : (Tryz.prog.info? 149).map (·.size) = some pl.toArray.size:=by simpa [HL.out] using SZE.out
 have F9:=Live.hall F0 0 pl.toArray.toList rfl (by simpa using HL.out.symm)
 have hr:=run_loadVar_mid (P:=Tryz.prog) (W0.setCells rb 0 pl.toArray.toList) rb 0 149 pl _ (range_of_blk (F9.out.blk 0 rfl)) Tryz.underlying149 rfl SZL
 obtain ⟨W9,h9⟩ : ∃ W9,W0.setCells rb 0 pl.toArray.toList = W9:=⟨_,rfl⟩
 rw [h9] at F9 hr
 have H9:=Lib.hid h9
 clear h9
 go_wp2_with (first | ((with_reducible refine at_load 24 ?_); refine wpList_load_mid rfl 149 _ rfl ad (off + n * 16) rfl pl _ RG Tryz.underlying149 rfl SZL ?_) | ((with_reducible refine at_store 24 ?_); refine wpList_store_as rfl 149 _ _ rfl rb 0 pl.toArray rfl rfl TH SZP ONP W9 H9.out ?_))
 (try simp only [Exit.inBlock,Exit.then])
 refine bodyPost_ret (v:=.tuple #[.agg pl.toArray,.bool true]) (results_cell2 Tryz.results70 rfl hr rfl) rfl ?_
 exact HP.out _ F9.out.b
set_option maxRecDepth 100000 in
set_option maxHeartbeats 4000000 in
theorem lg_Sum (w : World) (lb : Nat) (g : LgM) (h : LgRd w lb g) (n : Nat) (hn : n < g.es.length) (p : LeM) (hp : g.es[n] = p) : Calls Tryz.prog 43 #[.pointer (some ⟨lb,0,none⟩),.int .i64 (n : Int)] w (Ret w (.tuple #[.string ⟨p.en.sum.toArray⟩,.int .i64 0])):=by
 have HP : Hid (∀ w',Below w.heap.size w w' → Ret w (.tuple #[.string ⟨p.en.sum.toArray⟩,.int .i64 0]) (.returned (.tuple #[.string ⟨p.en.sum.toArray⟩,.int .i64 0])) w'):=Lib.hid (fun w' h=>⟨rfl,h⟩)
 generalize Ret w (.tuple #[.string ⟨p.en.sum.toArray⟩,.int .i64 0]) = P at HP ⊢
 have HAt:=Lib.hid (fun W (hW : Below w.heap.size w W)=>lg_at W lb g (h.next hW) n hn p hp)
 have hmem : p ∈ g.es:=by rw [← hp]; exact List.getElem_mem _
 have HPk:=Lib.hid (h.ok p hmem)
 have HOne : Hid (Led.One p.en n):=Lib.hid (by have:=h.wf.one n (by rw [List.length_map]; exact hn); rw [List.getElem_map,hp] at this; exact this)
 have ONP : Hid ((lcell p).toArray.all (·.oneCell') = true):=Lib.hid (all_oneCell_toArray (lcell_one p HPk.out.t.one))
 have SZE : Hid ((Tryz.prog.info? 149).map (·.size) = some 16):=Lib.hid (by kernel_rfl)
 clear h hn hp hmem
 go_enter Tryz.func43,Tryz.ntmps43
 go_wp2_with fail
 have F0:=Lib.hid (Live.start w)
 refine (HAt.out _ F0.out.b).mono ?_
 rintro e w1 ⟨rfl,hb⟩
 have F0:=Live.hb F0 hb
 clear hb HAt
 have F0a:=Live.ha F0 #[.int .i64 0,.int .i64 0,.int .i64 0,.bool false,.string ⟨#[]⟩,.string ⟨#[]⟩,.string ⟨#[]⟩,.string ⟨#[]⟩,.string ⟨#[]⟩,.string ⟨#[]⟩,.slice none 0 0,.string ⟨#[]⟩,.slice none 0 0,.slice none 0 0,.pointer none,.slice none 0 0] 149
 have TH : (w1.alloc (.cells #[.int .i64 0,.int .i64 0,.int .i64 0,.bool false,.string ⟨#[]⟩,.string ⟨#[]⟩,.string ⟨#[]⟩,.string ⟨#[]⟩,.string ⟨#[]⟩,.string ⟨#[]⟩,.slice none 0 0,.string ⟨#[]⟩,.slice none 0 0,.slice none 0 0,.pointer none,.slice none 0 0] 149)).there w1.heap.size 0 (lcell p).toArray.size:=F0a.out.there 0 16 rfl (by decide)
 have ONQ:=ONP.out
 have SZP : (Tryz.prog.info? 149).map (·.size) = some (lcell p).toArray.size:=SZE.out
 have F1:=Live.hall F0a 0 (lcell p) rfl rfl
 obtain ⟨W1,h9⟩ : ∃ W9,(w1.alloc (.cells #[.int .i64 0,.int .i64 0,.int .i64 0,.bool false,.string ⟨#[]⟩,.string ⟨#[]⟩,.string ⟨#[]⟩,.string ⟨#[]⟩,.string ⟨#[]⟩,.string ⟨#[]⟩,.slice none 0 0,.string ⟨#[]⟩,.slice none 0 0,.slice none 0 0,.pointer none,.slice none 0 0] 149)).setCells w1.heap.size 0 (lcell p).toArray.toList = W9:=⟨_,rfl⟩
 rw [show (w1.alloc (.cells #[.int .i64 0,.int .i64 0,.int .i64 0,.bool false,.string ⟨#[]⟩,.string ⟨#[]⟩,.string ⟨#[]⟩,.string ⟨#[]⟩,.string ⟨#[]⟩,.string ⟨#[]⟩,.slice none 0 0,.string ⟨#[]⟩,.slice none 0 0,.slice none 0 0,.pointer none,.slice none 0 0] 149)).setCells w1.heap.size 0 (lcell p) = W1 from h9] at F1
 have H9:=Lib.hid h9
 clear h9 F0a F0
 generalize hpl : (lcell p).toArray = PV at *
 go_upto_region 2 with ((with_reducible refine at_store 12 ?_); refine wpList_store_as rfl 149 _ _ rfl w1.heap.size 0 PV rfl rfl TH SZP ONQ W1 H9.out ?_)
 subst hpl
 clear TH ONQ SZP ONP H9
 generalize w1.heap.size = xb at *
 have k11 : W1.cell? ⟨xb,11,none⟩ = some (.string ⟨p.en.sum.toArray⟩):=F1.out.cell 0 11 rfl rfl
 go_quiet ((go_at_call 72; exact Calls.quiet_of_same ((lg_code _).mono fun _ _ h=>⟨h.1,h.2.symm⟩)))
 go_wp2_with fail
 have B:=F1.out.b
 exact HP.out _ ⟨B.os,B.tape,B.output,B.size,B.block⟩
set_option maxRecDepth 100000 in
set_option maxHeartbeats 4000000 in
theorem lg_State (w : World) (lb : Nat) (g : LgM) (h : LgRd w lb g) (n : Nat) (hn : n < g.es.length) (p : LeM) (hp : g.es[n] = p) : Calls Tryz.prog 32 #[.pointer (some ⟨lb,0,none⟩),.int .i64 (n : Int)] w (Ret w (.tuple #[p.sv,.int .i64 0])):=by
 have HP : Hid (∀ w',Below w.heap.size w w' → Ret w (.tuple #[p.sv,.int .i64 0]) (.returned (.tuple #[p.sv,.int .i64 0])) w'):=Lib.hid (fun w' h=>⟨rfl,h⟩)
 generalize Ret w (.tuple #[p.sv,.int .i64 0]) = P at HP ⊢
 have HAt:=Lib.hid (fun W (hW : Below w.heap.size w W)=>lg_at W lb g (h.next hW) n hn p hp)
 have hmem : p ∈ g.es:=by rw [← hp]; exact List.getElem_mem _
 have HPk:=Lib.hid (h.ok p hmem)
 have HOne : Hid (Led.One p.en n):=Lib.hid (by have:=h.wf.one n (by rw [List.length_map]; exact hn); rw [List.getElem_map,hp] at this; exact this)
 have ONP : Hid ((lcell p).toArray.all (·.oneCell') = true):=Lib.hid (all_oneCell_toArray (lcell_one p HPk.out.t.one))
 have SZE : Hid ((Tryz.prog.info? 149).map (·.size) = some 16):=Lib.hid (by kernel_rfl)
 clear h hn hp hmem
 go_enter Tryz.func32,Tryz.ntmps32
 go_wp2_with fail
 have F0:=Lib.hid (Live.start w)
 refine (HAt.out _ F0.out.b).mono ?_
 rintro e w1 ⟨rfl,hb⟩
 have F0:=Live.hb F0 hb
 clear hb HAt
 have F0a:=Live.ha F0 #[.int .i64 0,.int .i64 0,.int .i64 0,.bool false,.string ⟨#[]⟩,.string ⟨#[]⟩,.string ⟨#[]⟩,.string ⟨#[]⟩,.string ⟨#[]⟩,.string ⟨#[]⟩,.slice none 0 0,.string ⟨#[]⟩,.slice none 0 0,.slice none 0 0,.pointer none,.slice none 0 0] 149
 have TH : (w1.alloc (.cells #[.int .i64 0,.int .i64 0,.int .i64 0,.bool false,.string ⟨#[]⟩,.string ⟨#[]⟩,.string ⟨#[]⟩,.string ⟨#[]⟩,.string ⟨#[]⟩,.string ⟨#[]⟩,.slice none 0 0,.string ⟨#[]⟩,.slice none 0 0,.slice none 0 0,.pointer none,.slice none 0 0] 149)).there w1.heap.size 0 (lcell p).toArray.size:=F0a.out.there 0 16 rfl (by decide)
 have ONQ:=ONP.out
 have SZP : (Tryz.prog.info? 149).map (·.size) = some (lcell p).toArray.size:=SZE.out
 have F1:=Live.hall F0a 0 (lcell p) rfl rfl
 obtain ⟨W1,h9⟩ : ∃ W9,(w1.alloc (.cells #[.int .i64 0,.int .i64 0,.int .i64 0,.bool false,.string ⟨#[]⟩,.string ⟨#[]⟩,.string ⟨#[]⟩,.string ⟨#[]⟩,.string ⟨#[]⟩,.string ⟨#[]⟩,.slice none 0 0,.string ⟨#[]⟩,.slice none 0 0,.slice none 0 0,.pointer none,.slice none 0 0] 149)).setCells w1.heap.size 0 (lcell p).toArray.toList = W9:=⟨_,rfl⟩
 rw [show (w1.alloc (.cells #[.int .i64 0,.int .i64 0,.int .i64 0,.bool false,.string ⟨#[]⟩,.string ⟨#[]⟩,.string ⟨#[]⟩,.string ⟨#[]⟩,.string ⟨#[]⟩,.string ⟨#[]⟩,.slice none 0 0,.string ⟨#[]⟩,.slice none 0 0,.slice none 0 0,.pointer none,.slice none 0 0] 149)).setCells w1.heap.size 0 (lcell p) = W1 from h9] at F1
 have H9:=Lib.hid h9
 clear h9 F0a F0
 generalize hpl : (lcell p).toArray = PV at *
 go_upto_region 2 with ((with_reducible refine at_store 12 ?_); refine wpList_store_as rfl 149 _ _ rfl w1.heap.size 0 PV rfl rfl TH SZP ONQ W1 H9.out ?_)
 subst hpl
 clear TH ONQ SZP ONP H9
 generalize w1.heap.size = xb at *
 have k14 : W1.cell? ⟨xb,14,none⟩ = some p.sv:=F1.out.cell 0 14 rfl rfl
 go_quiet ((go_at_call 72; exact Calls.quiet_of_same ((lg_code _).mono fun _ _ h=>⟨h.1,h.2.symm⟩)))
 go_wp2_with fail
 have B:=F1.out.b
 exact HP.out _ ⟨B.os,B.tape,B.output,B.size,B.block⟩
def TxsEnd (w : World) (p : LeM) (e : Ending) (w' : World) : Prop :=
 ∃ l' A' c',e = .returned (.tuple #[.slice A' l'.length c',.int .i64 0]) ∧ Below w.heap.size w w' ∧ l'.map (·.1) = p.tl.map (·.1) ∧ TxsAt w' A' l'
set_option maxRecDepth 100000 in
set_option maxHeartbeats 4000000 in
theorem lg_Txs (w : World) (lb : Nat) (g : LgM) (h : LgRd w lb g) (n : Nat) (hn : n < g.es.length) (p : LeM) (hp : g.es[n] = p) : Calls Tryz.prog 28 #[.pointer (some ⟨lb,0,none⟩),.int .i64 (n : Int)] w (TxsEnd w p):=by
 have HP : Hid (∀ l' A' c' w',Below w.heap.size w w' → l'.map (·.1) = p.tl.map (·.1) → TxsAt w' A' l' → TxsEnd w p (.returned (.tuple #[.slice A' l'.length c',.int .i64 0])) w'):=Lib.hid (fun l' A' c' w' h1 h2 h3=>⟨l',A',c',rfl,h1,h2,h3⟩)
 generalize TxsEnd w p = P at HP ⊢
 have HAt:=Lib.hid (fun W (hW : Below w.heap.size w W)=>lg_at W lb g (h.next hW) n hn p hp)
 have hmem : p ∈ g.es:=by rw [← hp]; exact List.getElem_mem _
 have HPk:=Lib.hid (h.ok p hmem)
 have HOne : Hid (Led.One p.en n):=Lib.hid (by have:=h.wf.one n (by rw [List.length_map]; exact hn); rw [List.getElem_map,hp] at this; exact this)
 have ONP : Hid ((lcell p).toArray.all (·.oneCell') = true):=Lib.hid (all_oneCell_toArray (lcell_one p HPk.out.t.one))
 have SZE : Hid ((Tryz.prog.info? 149).map (·.size) = some 16):=Lib.hid (by kernel_rfl)
 have HRt : Hid (Led.Rt p.en):=Lib.hid (h.rt _ (List.mem_map_of_mem hmem))
 clear h hn hp hmem
 go_enter Tryz.func28,Tryz.ntmps28
 go_wp2_with fail
 have F0:=Lib.hid (Live.start w)
 refine (HAt.out _ F0.out.b).mono ?_
 rintro e w1 ⟨rfl,hb⟩
 have F0:=Live.hb F0 hb
 clear hb HAt
 have F0a:=Live.ha F0 #[.int .i64 0,.int .i64 0,.int .i64 0,.bool false,.string ⟨#[]⟩,.string ⟨#[]⟩,.string ⟨#[]⟩,.string ⟨#[]⟩,.string ⟨#[]⟩,.string ⟨#[]⟩,.slice none 0 0,.string ⟨#[]⟩,.slice none 0 0,.slice none 0 0,.pointer none,.slice none 0 0] 149
 have TH : (w1.alloc (.cells #[.int .i64 0,.int .i64 0,.int .i64 0,.bool false,.string ⟨#[]⟩,.string ⟨#[]⟩,.string ⟨#[]⟩,.string ⟨#[]⟩,.string ⟨#[]⟩,.string ⟨#[]⟩,.slice none 0 0,.string ⟨#[]⟩,.slice none 0 0,.slice none 0 0,.pointer none,.slice none 0 0] 149)).there w1.heap.size 0 (lcell p).toArray.size:=F0a.out.there 0 16 rfl (by decide)
 have ONQ:=ONP.out
 have SZP : (Tryz.prog.info? 149).map (·.size) = some (lcell p).toArray.size:=SZE.out
 have F1:=Live.hall F0a 0 (lcell p) rfl rfl
 obtain ⟨W1,h9⟩ : ∃ W9,(w1.alloc (.cells #[.int .i64 0,.int .i64 0,.int .i64 0,.bool false,.string ⟨#[]⟩,.string ⟨#[]⟩,.string ⟨#[]⟩,.string ⟨#[]⟩,.string ⟨#[]⟩,.string ⟨#[]⟩,.slice none 0 0,.string ⟨#[]⟩,.slice none 0 0,.slice none 0 0,.pointer none,.slice none 0 0] 149)).setCells w1.heap.size 0 (lcell p).toArray.toList = W9:=⟨_,rfl⟩
 rw [show (w1.alloc (.cells #[.int .i64 0,.int .i64 0,.int .i64 0,.bool false,.string ⟨#[]⟩,.string ⟨#[]⟩,.string ⟨#[]⟩,.string ⟨#[]⟩,.string ⟨#[]⟩,.string ⟨#[]⟩,.slice none 0 0,.string ⟨#[]⟩,.slice none 0 0,.slice none 0 0,.pointer none,.slice none 0 0] 149)).setCells w1.heap.size 0 (lcell p) = W1 from h9] at F1
 have H9:=Lib.hid h9
 clear h9 F0a F0
 generalize hpl : (lcell p).toArray = PV at *
 go_upto_region 2 with ((with_reducible refine at_store 12 ?_); refine wpList_store_as rfl 149 _ _ rfl w1.heap.size 0 PV rfl rfl TH SZP ONQ W1 H9.out ?_)
 subst hpl
 clear TH ONQ SZP ONP H9
 generalize w1.heap.size = xb at *
 have HCl:=Lib.hid (led_cloned W1 p.tl p.xA p.xc (HPk.out.x.next F1.out.b) (by have h5:=HRt.out.few; rw [HPk.out.xe,List.length_map] at h5; omega) (fun q hq=>by
  have hf:=HRt.out.fine q.1 (by rw [HPk.out.xe]; exact List.mem_map_of_mem hq)
  obtain ⟨_,_,_,hk⟩:=Ex.fineX_spec hf
  rcases hk with ⟨_,_,_,_,_,_,h⟩ | ⟨_,_,_,h,_⟩ | ⟨_,_,_,h,_⟩ | ⟨_,_,_,_,_,h⟩
  ·rw [h]; simp
  ·rw [h]; simp
  ·rw [h]; simp
  ·have:=Pw.okM_len h; omega))
 have k12 : W1.cell? ⟨xb,12,none⟩ = some (.slice p.xA p.tl.length p.xc):=F1.out.cell 0 12 rfl rfl
 go_wp2_with fail
 refine HCl.out.mono ?_
 rintro e w3 ⟨l',A',c',rfl,hb,h1,h2,_,_⟩
 have HH:=Lib.hid (And.intro (F1.out.b.nxt hb) (And.intro h1 h2))
 clear hb h1 h2 HCl k12
 go_wp2_with fail
 refine (lg_code _).mono ?_
 rintro e w4 ⟨rfl,rfl⟩
 go_wp2_with fail
 exact HP.out l' A' c' _ HH.out.1 HH.out.2.1 HH.out.2.2
def ListEnd (w : World) (sz n : Nat) (cs : List Value) (e : Ending) (w' : World) : Prop := ∃ A c,e = .returned (.tuple #[.slice A n c,.int .i64 0]) ∧ Below w.heap.size w w' ∧ Reads w' w'.heap.size sz A n cs
set_option maxRecDepth 100000 in
set_option maxHeartbeats 4000000 in
theorem lg_Receipts (w : World) (lb : Nat) (g : LgM) (h : LgRd w lb g) (n : Nat) (hn : n < g.es.length) (p : LeM) (hp : g.es[n] = p) : Calls Tryz.prog 29 #[.pointer (some ⟨lb,0,none⟩),.int .i64 (n : Int)] w (ListEnd w 3 p.en.rcs.length (rcs p.en.rcs)):=by
 have HP : Hid (∀ A' c' w',Below w.heap.size w w' → Reads w' w'.heap.size 3 A' p.en.rcs.length (rcs p.en.rcs) → ListEnd w 3 p.en.rcs.length (rcs p.en.rcs) (.returned (.tuple #[.slice A' p.en.rcs.length c',.int .i64 0])) w'):=Lib.hid (fun A' c' w' h1 h2=>⟨A',c',rfl,h1,h2⟩)
 generalize ListEnd w 3 p.en.rcs.length (rcs p.en.rcs) = P at HP ⊢
 have HAt:=Lib.hid (fun W (hW : Below w.heap.size w W)=>lg_at W lb g (h.next hW) n hn p hp)
 have hmem : p ∈ g.es:=by rw [← hp]; exact List.getElem_mem _
 have HPk:=Lib.hid (h.ok p hmem)
 have HOne : Hid (Led.One p.en n):=Lib.hid (by have:=h.wf.one n (by rw [List.length_map]; exact hn); rw [List.getElem_map,hp] at this; exact this)
 have ONP : Hid ((lcell p).toArray.all (·.oneCell') = true):=Lib.hid (all_oneCell_toArray (lcell_one p HPk.out.t.one))
 have SZE : Hid ((Tryz.prog.info? 149).map (·.size) = some 16):=Lib.hid (by kernel_rfl)
 have HRt : Hid (Led.Rt p.en):=Lib.hid (h.rt _ (List.mem_map_of_mem hmem))
 clear h hn hp hmem
 go_enter Tryz.func29,Tryz.ntmps29
 go_wp2_with fail
 have F0:=Lib.hid (Live.start w)
 refine (HAt.out _ F0.out.b).mono ?_
 rintro e w1 ⟨rfl,hb⟩
 have F0:=Live.hb F0 hb
 clear hb HAt
 have F0a:=Live.ha F0 #[.int .i64 0,.int .i64 0,.int .i64 0,.bool false,.string ⟨#[]⟩,.string ⟨#[]⟩,.string ⟨#[]⟩,.string ⟨#[]⟩,.string ⟨#[]⟩,.string ⟨#[]⟩,.slice none 0 0,.string ⟨#[]⟩,.slice none 0 0,.slice none 0 0,.pointer none,.slice none 0 0] 149
 have TH : (w1.alloc (.cells #[.int .i64 0,.int .i64 0,.int .i64 0,.bool false,.string ⟨#[]⟩,.string ⟨#[]⟩,.string ⟨#[]⟩,.string ⟨#[]⟩,.string ⟨#[]⟩,.string ⟨#[]⟩,.slice none 0 0,.string ⟨#[]⟩,.slice none 0 0,.slice none 0 0,.pointer none,.slice none 0 0] 149)).there w1.heap.size 0 (lcell p).toArray.size:=F0a.out.there 0 16 rfl (by decide)
 have ONQ:=ONP.out
 have SZP : (Tryz.prog.info? 149).map (·.size) = some (lcell p).toArray.size:=SZE.out
 have F1:=Live.hall F0a 0 (lcell p) rfl rfl
 obtain ⟨W1,h9⟩ : ∃ W9,(w1.alloc (.cells #[.int .i64 0,.int .i64 0,.int .i64 0,.bool false,.string ⟨#[]⟩,.string ⟨#[]⟩,.string ⟨#[]⟩,.string ⟨#[]⟩,.string ⟨#[]⟩,.string ⟨#[]⟩,.slice none 0 0,.string ⟨#[]⟩,.slice none 0 0,.slice none 0 0,.pointer none,.slice none 0 0] 149)).setCells w1.heap.size 0 (lcell p).toArray.toList = W9:=⟨_,rfl⟩
 rw [show (w1.alloc (.cells #[.int .i64 0,.int .i64 0,.int .i64 0,.bool false,.string ⟨#[]⟩,.string ⟨#[]⟩,.string ⟨#[]⟩,.string ⟨#[]⟩,.string ⟨#[]⟩,.string ⟨#[]⟩,.slice none 0 0,.string ⟨#[]⟩,.slice none 0 0,.slice none 0 0,.pointer none,.slice none 0 0] 149)).setCells w1.heap.size 0 (lcell p) = W1 from h9] at F1
 have H9:=Lib.hid h9
 clear h9 F0a F0
 generalize hpl : (lcell p).toArray = PV at *
 go_upto_region 2 with ((with_reducible refine at_store 12 ?_); refine wpList_store_as rfl 149 _ _ rfl w1.heap.size 0 PV rfl rfl TH SZP ONQ W1 H9.out ?_)
 subst hpl
 clear TH ONQ SZP ONP H9
 generalize w1.heap.size = xb at *
 have HCl:=Lib.hid (clone_rcs W1 _ (by have h5:=HRt.out.len; have h6:=HRt.out.few; omega) p.rA p.rc ((HPk.out.r.below F1.out.b).more F1.out.b.size))
 have k12 : W1.cell? ⟨xb,13,none⟩ = some (.slice p.rA p.en.rcs.length p.rc):=F1.out.cell 0 13 rfl rfl
 go_wp2_with fail
 refine HCl.out.mono ?_
 rintro e w3 ⟨A',c',rfl,hb,h1,_,_⟩
 have HH:=Lib.hid (And.intro (F1.out.b.nxt hb) h1)
 clear hb h1 HCl k12
 go_wp2_with fail
 refine (lg_code _).mono ?_
 rintro e w4 ⟨rfl,rfl⟩
 go_wp2_with fail
 exact HP.out A' c' _ HH.out.1 HH.out.2
set_option maxRecDepth 100000 in
set_option maxHeartbeats 4000000 in
theorem lg_Set (w : World) (lb : Nat) (g : LgM) (h : LgRd w lb g) (n : Nat) (hn : n < g.es.length) (p : LeM) (hp : g.es[n] = p) : Calls Tryz.prog 37 #[.pointer (some ⟨lb,0,none⟩),.int .i64 (n : Int)] w (ListEnd w 2 p.en.set.length (mcells p.en.set)):=by
 have HP : Hid (∀ A' c' w',Below w.heap.size w w' → Reads w' w'.heap.size 2 A' p.en.set.length (mcells p.en.set) → ListEnd w 2 p.en.set.length (mcells p.en.set) (.returned (.tuple #[.slice A' p.en.set.length c',.int .i64 0])) w'):=Lib.hid (fun A' c' w' h1 h2=>⟨A',c',rfl,h1,h2⟩)
 generalize ListEnd w 2 p.en.set.length (mcells p.en.set) = P at HP ⊢
 have HAt:=Lib.hid (fun W (hW : Below w.heap.size w W)=>lg_at W lb g (h.next hW) n hn p hp)
 have hmem : p ∈ g.es:=by rw [← hp]; exact List.getElem_mem _
 have HPk:=Lib.hid (h.ok p hmem)
 have HOne : Hid (Led.One p.en n):=Lib.hid (by have:=h.wf.one n (by rw [List.length_map]; exact hn); rw [List.getElem_map,hp] at this; exact this)
 have ONP : Hid ((lcell p).toArray.all (·.oneCell') = true):=Lib.hid (all_oneCell_toArray (lcell_one p HPk.out.t.one))
 have SZE : Hid ((Tryz.prog.info? 149).map (·.size) = some 16):=Lib.hid (by kernel_rfl)
 have k0 : w.cell? ⟨lb,0,none⟩ = some (.slice g.aA g.es.length g.ac):=h.blk.cell 0
 have hne : ((n : Int) == (g.es.length : Int)) = false:=by rw [beq_eq_false_iff_ne]; omega
 clear h hn hp hmem
 go_enter Tryz.func37,Tryz.ntmps37
 have F0:=Lib.hid (Live.start w)
 go_wp2_with fail
 refine (HAt.out _ F0.out.b).mono ?_
 rintro e w1 ⟨rfl,hb⟩
 have F0:=Live.hb F0 hb
 clear hb HAt
 have F0a:=Live.ha F0 #[.int .i64 0,.int .i64 0,.int .i64 0,.bool false,.string ⟨#[]⟩,.string ⟨#[]⟩,.string ⟨#[]⟩,.string ⟨#[]⟩,.string ⟨#[]⟩,.string ⟨#[]⟩,.slice none 0 0,.string ⟨#[]⟩,.slice none 0 0,.slice none 0 0,.pointer none,.slice none 0 0] 149
 have TH : (w1.alloc (.cells #[.int .i64 0,.int .i64 0,.int .i64 0,.bool false,.string ⟨#[]⟩,.string ⟨#[]⟩,.string ⟨#[]⟩,.string ⟨#[]⟩,.string ⟨#[]⟩,.string ⟨#[]⟩,.slice none 0 0,.string ⟨#[]⟩,.slice none 0 0,.slice none 0 0,.pointer none,.slice none 0 0] 149)).there w1.heap.size 0 (lcell p).toArray.size:=F0a.out.there 0 16 rfl (by decide)
 have ONQ:=ONP.out
 have SZP : (Tryz.prog.info? 149).map (·.size) = some (lcell p).toArray.size:=SZE.out
 have F1:=Live.hall F0a 0 (lcell p) rfl rfl
 obtain ⟨W1,h9⟩ : ∃ W9,(w1.alloc (.cells #[.int .i64 0,.int .i64 0,.int .i64 0,.bool false,.string ⟨#[]⟩,.string ⟨#[]⟩,.string ⟨#[]⟩,.string ⟨#[]⟩,.string ⟨#[]⟩,.string ⟨#[]⟩,.slice none 0 0,.string ⟨#[]⟩,.slice none 0 0,.slice none 0 0,.pointer none,.slice none 0 0] 149)).setCells w1.heap.size 0 (lcell p).toArray.toList = W9:=⟨_,rfl⟩
 rw [show (w1.alloc (.cells #[.int .i64 0,.int .i64 0,.int .i64 0,.bool false,.string ⟨#[]⟩,.string ⟨#[]⟩,.string ⟨#[]⟩,.string ⟨#[]⟩,.string ⟨#[]⟩,.string ⟨#[]⟩,.slice none 0 0,.string ⟨#[]⟩,.slice none 0 0,.slice none 0 0,.pointer none,.slice none 0 0] 149)).setCells w1.heap.size 0 (lcell p) = W1 from h9] at F1
 have H9:=Lib.hid h9
 clear h9 F0a F0
 generalize hpl : (lcell p).toArray = PV at *
 go_upto_region 4 with ((with_reducible refine at_store 24 ?_); refine wpList_store_as rfl 149 _ _ rfl w1.heap.size 0 PV rfl rfl TH SZP ONQ W1 H9.out ?_)
 subst hpl
 clear TH ONQ SZP ONP H9
 generalize w1.heap.size = xb at *
 have HCl:=Lib.hid (clone_mems W1 _ (by have h5:=Pw.okM_len HOne.out.set; omega) p.sA p.sc ((HPk.out.s.below F1.out.b).more F1.out.b.size))
 have k12 : W1.cell? ⟨xb,15,none⟩ = some (.slice p.sA p.en.set.length p.sc):=F1.out.cell 0 15 rfl rfl
 go_wp2_with fail
 refine HCl.out.mono ?_
 rintro e w3 ⟨A',c',rfl,hb,h1,_,_⟩
 have HH:=Lib.hid (And.intro (F1.out.b.nxt hb) h1)
 clear hb h1 HCl k12
 go_wp2_with fail
 refine (lg_code _).mono ?_
 rintro e w4 ⟨rfl,rfl⟩
 go_wp2_with fail
 exact HP.out A' c' _ HH.out.1 HH.out.2
set_option maxRecDepth 100000 in
set_option maxHeartbeats 4000000 in
theorem lg_Set_next (w : World) (lb : Nat) (g : LgM) (h : LgRd w lb g) : Calls Tryz.prog 37 #[.pointer (some ⟨lb,0,none⟩),.int .i64 (g.es.length : Int)] w (ListEnd w 2 g.nx.length (mcells g.nx)):=by
 have HP : Hid (∀ A' c' w',Below w.heap.size w w' → Reads w' w'.heap.size 2 A' g.nx.length (mcells g.nx) → ListEnd w 2 g.nx.length (mcells g.nx) (.returned (.tuple #[.slice A' g.nx.length c',.int .i64 0])) w'):=Lib.hid (fun A' c' w' h1 h2=>⟨A',c',rfl,h1,h2⟩)
 generalize ListEnd w 2 g.nx.length (mcells g.nx) = P at HP ⊢
 have k0 : w.cell? ⟨lb,0,none⟩ = some (.slice g.aA g.es.length g.ac):=h.blk.cell 0
 have k1 : w.cell? ⟨lb,1,none⟩ = some (.slice g.nA g.nx.length g.nc):=h.blk.cell 1
 have hok : g.nx.length ≤ 100000:=by
  obtain ⟨n,hn⟩:=h.pos
  obtain ⟨q,hq,e⟩:=h.nx
  have hl : g.L.length = n + 1:=by rw [List.length_map,hn]
  rw [Led.last_of hl] at hq
  have h5:=Pw.okM_len (h.wf.one n (by omega)).nxt
  rw [Option.some.inj hq,e] at h5
  omega
 have HCl:=Lib.hid (clone_mems w g.nx hok g.nA g.nc h.nr)
 have hne : ((g.es.length : Int) == (g.es.length : Int)) = true:=by rw [beq_iff_eq]
 clear h hok
 go_enter Tryz.func37,Tryz.ntmps37
 go_wp2_with fail
 refine HCl.out.mono ?_
 rintro e w3 ⟨A',c',rfl,hb,h1,_,_⟩
 have HH:=Lib.hid (And.intro hb h1)
 clear hb h1 HCl k0 k1
 go_wp2_with fail
 exact HP.out A' c' _ HH.out.1 HH.out.2
def HeadEnd (w : World) (h : Hd) (e : Ending) (w' : World) : Prop := ∃ kA kc,e = .returned (.tuple #[.agg #[.int .i64 h.hgt,.int .i64 h.epo,.int .i64 h.vw,.bool h.last,.string ⟨h.par.toArray⟩,.string ⟨h.st.toArray⟩,.string ⟨h.rc.toArray⟩,.string ⟨h.tx.toArray⟩,.string ⟨h.mem.toArray⟩,.string ⟨h.nxt.toArray⟩,.slice kA h.sk.length kc],.int .i64 0]) ∧ Below w.heap.size w w' ∧ Reads w' w'.heap.size 1 kA h.sk.length (strv h.sk)
set_option maxRecDepth 100000 in
set_option maxHeartbeats 4000000 in
theorem lg_Head (w : World) (lb : Nat) (g : LgM) (h : LgRd w lb g) (n : Nat) (hn : n < g.es.length) (p : LeM) (hp : g.es[n] = p) : Calls Tryz.prog 27 #[.pointer (some ⟨lb,0,none⟩),.int .i64 (n : Int)] w (HeadEnd w p.en.hd):=by
 have HP : Hid (∀ kA kc w',Below w.heap.size w w' → Reads w' w'.heap.size 1 kA p.en.hd.sk.length (strv p.en.hd.sk) → HeadEnd w p.en.hd (.returned (.tuple #[.agg #[.int .i64 p.en.hd.hgt,.int .i64 p.en.hd.epo,.int .i64 p.en.hd.vw,.bool p.en.hd.last,.string ⟨p.en.hd.par.toArray⟩,.string ⟨p.en.hd.st.toArray⟩,.string ⟨p.en.hd.rc.toArray⟩,.string ⟨p.en.hd.tx.toArray⟩,.string ⟨p.en.hd.mem.toArray⟩,.string ⟨p.en.hd.nxt.toArray⟩,.slice kA p.en.hd.sk.length kc],.int .i64 0])) w'):=Lib.hid (fun kA kc w' h1 h2=>⟨kA,kc,rfl,h1,h2⟩)
 generalize HeadEnd w p.en.hd = P at HP ⊢
 have HAt:=Lib.hid (fun W (hW : Below w.heap.size w W)=>lg_at W lb g (h.next hW) n hn p hp)
 have hmem : p ∈ g.es:=by rw [← hp]; exact List.getElem_mem _
 have HPk:=Lib.hid (h.ok p hmem)
 have HOne : Hid (Led.One p.en n):=Lib.hid (by have:=h.wf.one n (by rw [List.length_map]; exact hn); rw [List.getElem_map,hp] at this; exact this)
 have ONP : Hid ((lcell p).toArray.all (·.oneCell') = true):=Lib.hid (all_oneCell_toArray (lcell_one p HPk.out.t.one))
 have SZE : Hid ((Tryz.prog.info? 149).map (·.size) = some 16):=Lib.hid (by kernel_rfl)
 clear h hn hp hmem
 go_enter Tryz.func27,Tryz.ntmps27
 go_upto_region 1 with fail
 have F0:=Live.ha (Lib.hid (Live.start w)) #[.int .i64 0,.int .i64 0,.int .i64 0,.bool false,.string ⟨#[]⟩,.string ⟨#[]⟩,.string ⟨#[]⟩,.string ⟨#[]⟩,.string ⟨#[]⟩,.string ⟨#[]⟩,.slice none 0 0] 65
 generalize w.alloc (.cells #[.int .i64 0,.int .i64 0,.int .i64 0,.bool false,.string ⟨#[]⟩,.string ⟨#[]⟩,.string ⟨#[]⟩,.string ⟨#[]⟩,.string ⟨#[]⟩,.string ⟨#[]⟩,.slice none 0 0] 65) = W0 at F0 ⊢
 generalize w.heap.size = rb at F0 ⊢
 go_wp2_with fail
 refine (HAt.out _ F0.out.b).mono ?_
 rintro e w1 ⟨rfl,hb⟩
 have F0:=Live.hb F0 hb
 clear hb HAt
 have F0a:=Live.ha F0 #[.int .i64 0,.int .i64 0,.int .i64 0,.bool false,.string ⟨#[]⟩,.string ⟨#[]⟩,.string ⟨#[]⟩,.string ⟨#[]⟩,.string ⟨#[]⟩,.string ⟨#[]⟩,.slice none 0 0,.string ⟨#[]⟩,.slice none 0 0,.slice none 0 0,.pointer none,.slice none 0 0] 149
 have TH : (w1.alloc (.cells #[.int .i64 0,.int .i64 0,.int .i64 0,.bool false,.string ⟨#[]⟩,.string ⟨#[]⟩,.string ⟨#[]⟩,.string ⟨#[]⟩,.string ⟨#[]⟩,.string ⟨#[]⟩,.slice none 0 0,.string ⟨#[]⟩,.slice none 0 0,.slice none 0 0,.pointer none,.slice none 0 0] 149)).there w1.heap.size 0 (lcell p).toArray.size:=F0a.out.there 0 16 rfl (by decide)
 have ONQ:=ONP.out
 have SZP : (Tryz.prog.info? 149).map (·.size) = some (lcell p).toArray.size:=SZE.out
 have F1:=Live.hall F0a 0 (lcell p) rfl rfl
 obtain ⟨W1,h9⟩ : ∃ W9,(w1.alloc (.cells #[.int .i64 0,.int .i64 0,.int .i64 0,.bool false,.string ⟨#[]⟩,.string ⟨#[]⟩,.string ⟨#[]⟩,.string ⟨#[]⟩,.string ⟨#[]⟩,.string ⟨#[]⟩,.slice none 0 0,.string ⟨#[]⟩,.slice none 0 0,.slice none 0 0,.pointer none,.slice none 0 0] 149)).setCells w1.heap.size 0 (lcell p).toArray.toList = W9:=⟨_,rfl⟩
 rw [show (w1.alloc (.cells #[.int .i64 0,.int .i64 0,.int .i64 0,.bool false,.string ⟨#[]⟩,.string ⟨#[]⟩,.string ⟨#[]⟩,.string ⟨#[]⟩,.string ⟨#[]⟩,.string ⟨#[]⟩,.slice none 0 0,.string ⟨#[]⟩,.slice none 0 0,.slice none 0 0,.pointer none,.slice none 0 0] 149)).setCells w1.heap.size 0 (lcell p) = W1 from h9] at F1
 have H9:=Lib.hid h9
 clear h9 F0a F0
 generalize hpl : (lcell p).toArray = PV at *
 go_upto_region 2 with ((with_reducible refine at_store 12 ?_); refine wpList_store_as rfl 149 _ _ rfl w1.heap.size 0 PV rfl rfl TH SZP ONQ W1 H9.out ?_)
 subst hpl
 clear TH ONQ SZP ONP H9
 generalize w1.heap.size = xb at *
 have HSh:=Lib.hid (lg_shown W1 p.en.hd p.kA p.kc ((HPk.out.k.below F1.out.b).more F1.out.b.size) (by have h5:=HOne.out.ok.sk_le; omega))
 have SZT : Hid ((Tryz.prog.info? 65).map (·.size) = some 11):=Lib.hid (by kernel_rfl)
 have RG : W1.rangeAt xb 0 [.int .i64 p.en.hd.hgt,.int .i64 p.en.hd.epo,.int .i64 p.en.hd.vw,.bool p.en.hd.last,.string ⟨p.en.hd.par.toArray⟩,.string ⟨p.en.hd.st.toArray⟩,.string ⟨p.en.hd.rc.toArray⟩,.string ⟨p.en.hd.tx.toArray⟩,.string ⟨p.en.hd.mem.toArray⟩,.string ⟨p.en.hd.nxt.toArray⟩,.slice p.kA p.en.hd.sk.length p.kc]:=range_head (F1.out.blk 0 rfl) rfl
 go_wp2_with ((with_reducible refine at_load 15 ?_); refine wpList_load_mid rfl 65 _ rfl xb 0 rfl [.int .i64 p.en.hd.hgt,.int .i64 p.en.hd.epo,.int .i64 p.en.hd.vw,.bool p.en.hd.last,.string ⟨p.en.hd.par.toArray⟩,.string ⟨p.en.hd.st.toArray⟩,.string ⟨p.en.hd.rc.toArray⟩,.string ⟨p.en.hd.tx.toArray⟩,.string ⟨p.en.hd.mem.toArray⟩,.string ⟨p.en.hd.nxt.toArray⟩,.slice p.kA p.en.hd.sk.length p.kc] _ RG Tryz.underlying65 rfl SZT.out ?_)
 refine HSh.out.mono ?_
 rintro e w3 ⟨kA,kc,rfl,hb,h1,h2⟩
 have hlt:=F1.out.lt 1 rfl
 have F3:=Live.hb F1 hb
 have HH:=Lib.hid (And.intro h1 (fun (a : Addr) (ha : kA = some a)=>show a.block ≠ rb from by have h5:=h2 a ha; have h6 : rb < W1.heap.size:=hlt; omega))
 clear hlt h2
 clear hb h1 HSh RG F1
 generalize p.en.hd = hd at *
 go_wp2_with fail
 refine (lg_code _).mono ?_
 rintro e w4 ⟨rfl,rfl⟩
 have TH : w3.there rb 0 11:=F3.out.there 1 11 rfl (by decide)
 have F9 : Hid (Live w (w3.setCells rb 0 [.int .i64 hd.hgt,.int .i64 hd.epo,.int .i64 hd.vw,.bool hd.last,.string ⟨hd.par.toArray⟩,.string ⟨hd.st.toArray⟩,.string ⟨hd.rc.toArray⟩,.string ⟨hd.tx.toArray⟩,.string ⟨hd.mem.toArray⟩,.string ⟨hd.nxt.toArray⟩,.slice kA hd.sk.length kc]) [(xb,149,(lcell p).toArray),(rb,65,#[.int .i64 hd.hgt,.int .i64 hd.epo,.int .i64 hd.vw,.bool hd.last,.string ⟨hd.par.toArray⟩,.string ⟨hd.st.toArray⟩,.string ⟨hd.rc.toArray⟩,.string ⟨hd.tx.toArray⟩,.string ⟨hd.mem.toArray⟩,.string ⟨hd.nxt.toArray⟩,.slice kA hd.sk.length kc])]):=Live.hall F3 1 [.int .i64 hd.hgt,.int .i64 hd.epo,.int .i64 hd.vw,.bool hd.last,.string ⟨hd.par.toArray⟩,.string ⟨hd.st.toArray⟩,.string ⟨hd.rc.toArray⟩,.string ⟨hd.tx.toArray⟩,.string ⟨hd.mem.toArray⟩,.string ⟨hd.nxt.toArray⟩,.slice kA hd.sk.length kc] rfl rfl
 have HG : w3.grownBy (w3.setCells rb 0 [.int .i64 hd.hgt,.int .i64 hd.epo,.int .i64 hd.vw,.bool hd.last,.string ⟨hd.par.toArray⟩,.string ⟨hd.st.toArray⟩,.string ⟨hd.rc.toArray⟩,.string ⟨hd.tx.toArray⟩,.string ⟨hd.mem.toArray⟩,.string ⟨hd.nxt.toArray⟩,.slice kA hd.sk.length kc]) (some rb):=grown_setAll _ 0 _ (World.grownBy.refl _ _)
 have R9:=Lib.hid (reads_off HH.out.1 HG (fun a ha e=>HH.out.2 a ha (Option.some.inj e)))
 have hr:=run_loadVar_mid (P:=Tryz.prog) (w3.setCells rb 0 [.int .i64 hd.hgt,.int .i64 hd.epo,.int .i64 hd.vw,.bool hd.last,.string ⟨hd.par.toArray⟩,.string ⟨hd.st.toArray⟩,.string ⟨hd.rc.toArray⟩,.string ⟨hd.tx.toArray⟩,.string ⟨hd.mem.toArray⟩,.string ⟨hd.nxt.toArray⟩,.slice kA hd.sk.length kc]) rb 0 65 [.int .i64 hd.hgt,.int .i64 hd.epo,.int .i64 hd.vw,.bool hd.last,.string ⟨hd.par.toArray⟩,.string ⟨hd.st.toArray⟩,.string ⟨hd.rc.toArray⟩,.string ⟨hd.tx.toArray⟩,.string ⟨hd.mem.toArray⟩,.string ⟨hd.nxt.toArray⟩,.slice kA hd.sk.length kc] _ (range_of_blk (F9.out.blk 1 rfl)) Tryz.underlying65 rfl SZT.out
 obtain ⟨W9,h9⟩ : ∃ W9,w3.setCells rb 0 (#[.int .i64 hd.hgt,.int .i64 hd.epo,.int .i64 hd.vw,.bool hd.last,.string ⟨hd.par.toArray⟩,.string ⟨hd.st.toArray⟩,.string ⟨hd.rc.toArray⟩,.string ⟨hd.tx.toArray⟩,.string ⟨hd.mem.toArray⟩,.string ⟨hd.nxt.toArray⟩,.slice kA hd.sk.length kc] : Array Value).toList = W9:=⟨_,rfl⟩
 have h9b : w3.setCells rb 0 [.int .i64 hd.hgt,.int .i64 hd.epo,.int .i64 hd.vw,.bool hd.last,.string ⟨hd.par.toArray⟩,.string ⟨hd.st.toArray⟩,.string ⟨hd.rc.toArray⟩,.string ⟨hd.tx.toArray⟩,.string ⟨hd.mem.toArray⟩,.string ⟨hd.nxt.toArray⟩,.slice kA hd.sk.length kc] = W9:=h9
 rw [h9b] at F9 hr R9
 have H9:=Lib.hid h9
 clear h9b h9 HG
 go_wp2_with ((with_reducible refine at_store 16 ?_); refine wpList_store_as rfl 65 _ _ rfl rb 0 #[.int .i64 hd.hgt,.int .i64 hd.epo,.int .i64 hd.vw,.bool hd.last,.string ⟨hd.par.toArray⟩,.string ⟨hd.st.toArray⟩,.string ⟨hd.rc.toArray⟩,.string ⟨hd.tx.toArray⟩,.string ⟨hd.mem.toArray⟩,.string ⟨hd.nxt.toArray⟩,.slice kA hd.sk.length kc] rfl rfl TH SZT.out (by simp [Value.oneCell']) W9 H9.out ?_)
 (try simp only [Exit.inBlock,Exit.then])
 refine bodyPost_ret (v:=.tuple #[.agg #[.int .i64 hd.hgt,.int .i64 hd.epo,.int .i64 hd.vw,.bool hd.last,.string ⟨hd.par.toArray⟩,.string ⟨hd.st.toArray⟩,.string ⟨hd.rc.toArray⟩,.string ⟨hd.tx.toArray⟩,.string ⟨hd.mem.toArray⟩,.string ⟨hd.nxt.toArray⟩,.slice kA hd.sk.length kc],.int .i64 0]) (results_cell2 Tryz.results27 rfl hr rfl) rfl ?_
 exact HP.out kA kc W9 F9.out.b R9.out
end Go.Proofs.YtnelhjfjkkdoaaaGreatDoor
