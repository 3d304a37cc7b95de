import Derived.Test.YtnelhjfjkkdoaaaGreatDoorJ32
import Derived.Test.YtnelhjfjkkdoaaaGreatDoorJ31
import Derived.Test.YtnelhjfjkkdoaaaGreatDoorJ03
import Derived.Laws.OwnMore
import Derived.Test.YtnelhjfjkkdoaaaGreatDoorJ24
import Derived.Test.YtnelhjfjkkdoaaaGreatDoorJ06
set_option linter.unusedSimpArgs false
set_option linter.unusedVariables false
namespace Go.Proofs.YtnelhjfjkkdoaaaGreatDoor
open Go.RowKit Go.Instr
attribute [local go_sem] ba_get ByteArray.mk_append_mk
attribute [local go_sem ↓] Go.wp_at_zero Go.wp_at_succ
def CloneEnd (w : World) (sz n : Nat) (cs : List Value) (e : Ending) (w' : World) : Prop :=
 ∃ A c,e = .returned (.slice A n c) ∧ Below w.heap.size w w' ∧ Reads w' w'.heap.size sz A n cs ∧ (∀ a,A = some a → w.heap.size ≤ a.block ∧ a.block < w'.heap.size) ∧ n ≤ c
theorem eqlIn_nil {t e : TypeId} (h : Tryz.prog.underlying t = some (.slice e)) (w : World) (d : Nat) (a : Option Addr) (n c : Nat) : (Op.equalIn (d + 1) t (.slice a n c) (.slice none 0 0)).run Tryz.prog w = .ok a.isNone w:=by
 cases a <;> simp [Op.equalIn,run_underlying h]
theorem eql_nil {t e : TypeId} (h : Tryz.prog.underlying t = some (.slice e)) (w : World) (a : Option Addr) (n c : Nat) : (binOp .eql t (.slice a n c) (.slice none 0 0)).run Tryz.prog w = .ok (.bool a.isNone) w:=by
 simp only [binOp]
 simp [Op.equal,Op.maxDepth,eqlIn_nil h w 9999 a n c]
set_option maxRecDepth 100000 in
theorem clone_strs (w : World) (l : List (List UInt8)) (hl : l.length ≤ 100000) (A : Option Addr) (c : Nat) (HR : Reads w w.heap.size 1 A l.length (strv l)) :
  Calls Tryz.prog 115 #[.slice A l.length c] w (CloneEnd w 1 l.length (strv l)):=by
 have HP : Hid (∀ A' c' w',Below w.heap.size w w' → Reads w' w'.heap.size 1 A' l.length (strv l) → (∀ a,A' = some a → w.heap.size ≤ a.block ∧ a.block < w'.heap.size) → l.length ≤ c' → CloneEnd w 1 l.length (strv l) (.returned (.slice A' l.length c')) w'):=Lib.hid (fun A' c' w' h1 h2 h3 h4=>⟨A',c',rfl,h1,h2,h3,h4⟩)
 generalize CloneEnd w 1 l.length (strv l) = P at HP ⊢
 have HL:=Lib.hid hl
 cases A with
 | none =>
  have h0 : l = []:=by
   cases l with
   | nil=>rfl
   | cons x r=>obtain ⟨a,o,h,_⟩:=HR.form (by simp) (by decide); cases h
  subst h0
  have he : (binOp .eql 26 (.slice none 0 c) (.slice none 0 0)).run Tryz.prog w = .ok (.bool true) w:=eql_nil Tryz.underlying26 w none 0 c
  go_enter Tryz.func115,Tryz.ntmps115
  go_wp2_with fail
  exact HP.out none 0 w (Below.refl _ _) Reads.none_ (by simp) (Nat.le_refl _)
 | some ad =>
  have HRR:=Lib.hid HR
  clear HR hl
  have he : (binOp .eql 26 (.slice (some ad) l.length c) (.slice none 0 0)).run Tryz.prog w = .ok (.bool false) w:=eql_nil Tryz.underlying26 w (some ad) l.length c
  obtain ⟨i0,hi0,hz0,hz1,hz2⟩:=info_parts info_str
  go_enter Tryz.func115,Tryz.ntmps115
  go_upto_region 3 with fail
  have F1:=Live.hb (Lib.hid (Live.start w)) ((Below.refl _ w).alloc (Nat.le_refl _) (.cells #[] 9))
  have O1:=World.ownsRow_made (base:=w.heap.size) (e:=9) (size:=1) w #[] 0 (Nat.le_refl _) (by simp only [maxLen]; omega) rfl
  have RA : Reads (w.alloc (.cells #[] 9)) w.heap.size 1 (some ad) l.length (strv l):=HRR.out.below F1.out.b
  have hll:=HL.out
  go_wp2_with (at_builtin; refine wpList_append_any (w.alloc (.cells #[] 9)) rfl _ _ 26 rfl w.heap.size 9 i0 _ 1 16 Tryz.underlying26 hi0 hz0 hz1 hz2 rfl (by decide) (.slice (some ⟨w.heap.size,0,none⟩) 0 0) 0 [] rfl O1 w.heap.size (some ad) l.length c (strv l) rfl RA (strv_one _) (by simp only [maxLen]; omega) (by omega) F1.out.b.size ?_; intro v2 w2 own2 hg2 _; rw [Nat.zero_add,List.nil_append] at own2; have hlt2:=own2.lt; obtain ⟨A2,c2,rfl,hr2,hc2,hb2⟩:=own_form own2; clear hb2; have hb2:=(show ∀ a,A2 = some a → w.heap.size ≤ a.block ∧ a.block < w2.heap.size from fun a ha=>hlt2 a.block (by rw [ha]; rfl)); clear hlt2; have H2:=Lib.hid (And.intro hr2 (And.intro hc2 hb2)); have HG:=Lib.hid (F1.out.b.grown hg2 F1.out.b.size (fun k e=>Nat.le_of_eq (Option.some.inj e))); clear own2 hg2 hr2 hc2 hb2)
  exact HP.out A2 c2 _ HG.out (H2.out.1.more (Nat.le_refl _)) H2.out.2.2 H2.out.2.1
set_option maxRecDepth 100000 in
theorem clone_mems (w : World) (l : List Pw.Mem) (hl : l.length ≤ 100000) (A : Option Addr) (c : Nat) (HR : Reads w w.heap.size 2 A l.length (mcells l)) :
  Calls Tryz.prog 83 #[.slice A l.length c] w (CloneEnd w 2 l.length (mcells l)):=by
 have HP : Hid (∀ A' c' w',Below w.heap.size w w' → Reads w' w'.heap.size 2 A' l.length (mcells l) → (∀ a,A' = some a → w.heap.size ≤ a.block ∧ a.block < w'.heap.size) → l.length ≤ c' → CloneEnd w 2 l.length (mcells l) (.returned (.slice A' l.length c')) w'):=Lib.hid (fun A' c' w' h1 h2 h3 h4=>⟨A',c',rfl,h1,h2,h3,h4⟩)
 generalize CloneEnd w 2 l.length (mcells l) = P at HP ⊢
 have HL:=Lib.hid hl
 cases A with
 | none =>
  have h0 : l = []:=by
   cases l with
   | nil=>rfl
   | cons x r=>obtain ⟨a,o,h,_⟩:=HR.form (by simp) (by decide); cases h
  subst h0
  have he : (binOp .eql 56 (.slice none 0 c) (.slice none 0 0)).run Tryz.prog w = .ok (.bool true) w:=eql_nil Tryz.underlying56 w none 0 c
  go_enter Tryz.func83,Tryz.ntmps83
  go_wp2_with fail
  exact HP.out none 0 w (Below.refl _ _) Reads.none_ (by simp) (Nat.le_refl _)
 | some ad =>
  have HRR:=Lib.hid HR
  clear HR hl
  have he : (binOp .eql 56 (.slice (some ad) l.length c) (.slice none 0 0)).run Tryz.prog w = .ok (.bool false) w:=eql_nil Tryz.underlying56 w (some ad) l.length c
  obtain ⟨i0,hi0,hz0,hz1,hz2⟩:=info_parts info_mem
  go_enter Tryz.func83,Tryz.ntmps83
  go_upto_region 3 with fail
  have F1:=Live.hb (Lib.hid (Live.start w)) ((Below.refl _ w).alloc (Nat.le_refl _) (.cells #[] 165))
  have O1:=World.ownsRow_made (base:=w.heap.size) (e:=165) (size:=2) w #[] 0 (Nat.le_refl _) (by simp only [maxLen]; omega) rfl
  have RA : Reads (w.alloc (.cells #[] 165)) w.heap.size 2 (some ad) l.length (mcells l):=HRR.out.below F1.out.b
  have hll:=HL.out
  go_wp2_with (at_builtin; refine wpList_append_any (w.alloc (.cells #[] 165)) rfl _ _ 56 rfl w.heap.size 165 i0 _ 2 24 Tryz.underlying56 hi0 hz0 hz1 hz2 rfl (by decide) (.slice (some ⟨w.heap.size,0,none⟩) 0 0) 0 [] rfl O1 w.heap.size (some ad) l.length c (mcells l) rfl RA (mcells_one _) (by simp only [maxLen]; omega) (by omega) F1.out.b.size ?_; intro v2 w2 own2 hg2 _; rw [Nat.zero_add,List.nil_append] at own2; have hlt2:=own2.lt; obtain ⟨A2,c2,rfl,hr2,hc2,hb2⟩:=own_form own2; clear hb2; have hb2:=(show ∀ a,A2 = some a → w.heap.size ≤ a.block ∧ a.block < w2.heap.size from fun a ha=>hlt2 a.block (by rw [ha]; rfl)); clear hlt2; have H2:=Lib.hid (And.intro hr2 (And.intro hc2 hb2)); have HG:=Lib.hid (F1.out.b.grown hg2 F1.out.b.size (fun k e=>Nat.le_of_eq (Option.some.inj e))); clear own2 hg2 hr2 hc2 hb2)
  exact HP.out A2 c2 _ HG.out (H2.out.1.more (Nat.le_refl _)) H2.out.2.2 H2.out.2.1
set_option maxRecDepth 100000 in
theorem clone_rcs (w : World) (l : List Ex.Rc) (hl : l.length ≤ 100000) (A : Option Addr) (c : Nat) (HR : Reads w w.heap.size 3 A l.length (rcs l)) :
  Calls Tryz.prog 74 #[.slice A l.length c] w (CloneEnd w 3 l.length (rcs l)):=by
 have HP : Hid (∀ A' c' w',Below w.heap.size w w' → Reads w' w'.heap.size 3 A' l.length (rcs l) → (∀ a,A' = some a → w.heap.size ≤ a.block ∧ a.block < w'.heap.size) → l.length ≤ c' → CloneEnd w 3 l.length (rcs l) (.returned (.slice A' l.length c')) w'):=Lib.hid (fun A' c' w' h1 h2 h3 h4=>⟨A',c',rfl,h1,h2,h3,h4⟩)
 generalize CloneEnd w 3 l.length (rcs l) = P at HP ⊢
 have HL:=Lib.hid hl
 cases A with
 | none =>
  have h0 : l = []:=by
   cases l with
   | nil=>rfl
   | cons x r=>obtain ⟨a,o,h,_⟩:=HR.form (by simp) (by decide); cases h
  subst h0
  have he : (binOp .eql 71 (.slice none 0 c) (.slice none 0 0)).run Tryz.prog w = .ok (.bool true) w:=eql_nil Tryz.underlying71 w none 0 c
  go_enter Tryz.func74,Tryz.ntmps74
  go_wp2_with fail
  exact HP.out none 0 w (Below.refl _ _) Reads.none_ (by simp) (Nat.le_refl _)
 | some ad =>
  have HRR:=Lib.hid HR
  clear HR hl
  have he : (binOp .eql 71 (.slice (some ad) l.length c) (.slice none 0 0)).run Tryz.prog w = .ok (.bool false) w:=eql_nil Tryz.underlying71 w (some ad) l.length c
  obtain ⟨i0,hi0,hz0,hz1,hz2⟩:=info_parts info_rc
  go_enter Tryz.func74,Tryz.ntmps74
  go_upto_region 3 with fail
  have F1:=Live.hb (Lib.hid (Live.start w)) ((Below.refl _ w).alloc (Nat.le_refl _) (.cells #[] 75))
  have O1:=World.ownsRow_made (base:=w.heap.size) (e:=75) (size:=3) w #[] 0 (Nat.le_refl _) (by simp only [maxLen]; omega) rfl
  have RA : Reads (w.alloc (.cells #[] 75)) w.heap.size 3 (some ad) l.length (rcs l):=HRR.out.below F1.out.b
  have hll:=HL.out
  go_wp2_with (at_builtin; refine wpList_append_any (w.alloc (.cells #[] 75)) rfl _ _ 71 rfl w.heap.size 75 i0 _ 3 32 Tryz.underlying71 hi0 hz0 hz1 hz2 rfl (by decide) (.slice (some ⟨w.heap.size,0,none⟩) 0 0) 0 [] rfl O1 w.heap.size (some ad) l.length c (rcs l) rfl RA (rcs_one _) (by simp only [maxLen]; omega) (by omega) F1.out.b.size ?_; intro v2 w2 own2 hg2 _; rw [Nat.zero_add,List.nil_append] at own2; have hlt2:=own2.lt; obtain ⟨A2,c2,rfl,hr2,hc2,hb2⟩:=own_form own2; clear hb2; have hb2:=(show ∀ a,A2 = some a → w.heap.size ≤ a.block ∧ a.block < w2.heap.size from fun a ha=>hlt2 a.block (by rw [ha]; rfl)); clear hlt2; have H2:=Lib.hid (And.intro hr2 (And.intro hc2 hb2)); have HG:=Lib.hid (F1.out.b.grown hg2 F1.out.b.size (fun k e=>Nat.le_of_eq (Option.some.inj e))); clear own2 hg2 hr2 hc2 hb2)
  exact HP.out A2 c2 _ HG.out (H2.out.1.more (Nat.le_refl _)) H2.out.2.2 H2.out.2.1
set_option maxRecDepth 100000 in
set_option maxHeartbeats 4000000 in
theorem lg_newest (w : World) (lb : Nat) (g : LgM) (h : LgRd w lb g) (p : LeM) (n : Nat) (hn : g.es.length = n + 1) (hp : g.es[n]'(by omega) = p) : Calls Tryz.prog 131 #[.pointer (some ⟨lb,0,none⟩)] w (Ret w (.agg (lcell p).toArray)):=by
 have HP : Hid (∀ w',Below w.heap.size w w' → Ret w (.agg (lcell p).toArray) (.returned (.agg (lcell p).toArray)) w'):=Lib.hid (fun w' h=>⟨rfl,h⟩)
 generalize Ret w (.agg (lcell p).toArray) = P at HP ⊢
 obtain ⟨ad,off,hA,hbl,hcell⟩:=led_cells h.r (i:=n) (by omega)
 rw [hp] at hcell
 have hle : g.es.length ≤ 1048577:=by have:=h.wf.le; rw [List.length_map] at this; exact this
 have HK : Hid (∀ W,Below w.heap.size w W → W.cell? ⟨lb,0,none⟩ = some (.slice g.aA g.es.length g.ac)):=Lib.hid (fun W hW=>(h.blk.below hW h.blk.lt).cell 0)
 have HRg : Hid (∀ W,Below w.heap.size w W → W.rangeAt ad (off + n * 16) (lcell p)):=Lib.hid (fun W hW j v hv=>hcell W hW j v hv)
 have hone : ∀ u ∈ lcell p,u.oneCell' = true:=lcell_one p (h.ok p (by rw [← hp]; exact List.getElem_mem _)).t.one
 rw [hn] at HK
 simp only [hA] at HK
 have hwl : IntKind.i64.wrap (((n + 1 : Nat) : Int) - 1) = (n : Int):=by rw [show ((n + 1 : Nat) : Int) - 1 = (n : Int) by omega]; exact IntWalk.i64_in _ (by omega)
 have hi1 : (n : Int) < ((n + 1 : Nat) : Int):=by omega
 have hi0 : (0 : Int) ≤ n:=by omega
 have SZE : Hid ((Tryz.prog.info? 149).map (·.size) = some 16):=Lib.hid (by kernel_rfl)
 have hlen : (lcell p).length = 16:=rfl
 clear h hp hcell hbl hA hle hn
 generalize lcell p = pl at *
 generalize n + 1 = m at *
 have ONP:=all_oneCell_toArray hone
 have HL:=Lib.hid hlen
 clear hone
 go_enter Tryz.func131,Tryz.ntmps131
 go_upto_region 1 with fail
 have F0:=Live.ha (Lib.hid (Live.start w)) #[.int .i64 0,.int .i64 0,.int .i64 0,.bool false,.string ⟨#[]⟩,.string ⟨#[]⟩,.string ⟨#[]⟩,.string ⟨#[]⟩,.string ⟨#[]⟩,.string ⟨#[]⟩,.slice none 0 0,.string ⟨#[]⟩,.slice none 0 0,.slice none 0 0,.pointer none,.slice none 0 0] 149
 generalize w.alloc (.cells #[.int .i64 0,.int .i64 0,.int .i64 0,.bool false,.string ⟨#[]⟩,.string ⟨#[]⟩,.string ⟨#[]⟩,.string ⟨#[]⟩,.string ⟨#[]⟩,.string ⟨#[]⟩,.slice none 0 0,.string ⟨#[]⟩,.slice none 0 0,.slice none 0 0,.pointer none,.slice none 0 0] 149) = W0 at F0 ⊢
 generalize w.heap.size = rb at F0 ⊢
 have F:=live_drew F0
 have k0:=HK.out _ F0.out.b
 have k1:=HK.out _ F.out.b
 have LD:=run_loadAt_mid (P:=Tryz.prog) W0.drew ad (off + n * 16) 149 pl _ (HRg.out _ F.out.b) Tryz.underlying149 rfl (by rw [HL.out]; exact SZE.out)
 go_still_tail 12,(by kernel_rfl)
 refine wpStill_step (fun K hK => ?_)
 refine still_load rfl _ _ rfl _ LD ?_
 refine hK _ ?_
 clear hK K
 refine wpStill_nil ?_
 change wpList _ _ _ _ _ W0.drew
 have TH : W0.drew.there rb 0 pl.toArray.size:=by have:=F.out.there 0 16 rfl (by decide); simpa [HL.out] using this
 have SZP : (Tryz.prog.info? 149).map (·.size) = some pl.toArray.size:=by simpa [HL.out] using SZE.out
 have F9:=Live.hall F 0 pl.toArray.toList rfl (by simpa using HL.out.symm)
 have hr:=run_loadVar_mid (P:=Tryz.prog) (W0.drew.setCells rb 0 pl.toArray.toList) rb 0 149 pl _ (range_of_blk (F9.out.blk 0 rfl)) Tryz.underlying149 rfl (by rw [HL.out]; exact SZE.out)
 obtain ⟨W9,h9⟩ : ∃ W9,W0.drew.setCells rb 0 pl.toArray.toList = W9:=⟨_,rfl⟩
 rw [h9] at F9 hr
 have H9:=Lib.hid h9
 clear h9
 go_wp2_with ((with_reducible refine at_store 14 ?_); refine wpList_store_as rfl 149 _ _ rfl rb 0 pl.toArray rfl rfl TH SZP ONP W9 H9.out ?_)
 (try simp only [Exit.inBlock,Exit.then])
 refine bodyPost_ret (v:=.agg pl.toArray) (results_one_cell Tryz.results131 rfl hr) rfl ?_
 exact HP.out _ F9.out.b
theorem xcells_set : ∀ (l : List TxM) (i : Nat) (hi : i < l.length) (A : Option Addr) (c : Nat),(xcells l).set (i * 8 + 7) (.slice A l[i].1.mem.length c) = xcells (l.set i (l[i].1,A,c))
 | [],i,hi,_,_=>by simp at hi
 | p :: r,0,_,A,c=>by simp [xcells,xcell]
 | p :: r,i + 1,hi,A,c=>by
  have ih:=xcells_set r i (by simpa using hi) A c
  have e : (i + 1) * 8 + 7 = 8 + (i * 8 + 7):=by omega
  simp only [xcells,List.flatMap_cons,List.set_cons_succ,List.getElem_cons_succ] at ih ⊢
  rw [e,List.set_append_right _ _ (by rw [xcell_len]; omega),xcell_len,show 8 + (i * 8 + 7) - 8 = i * 8 + 7 by omega,ih]
def CloneOEnd (w : World) (et : TypeId) (sz n : Nat) (cs : List Value) (e : Ending) (w' : World) : Prop :=
 ∃ A c,e = .returned (.slice A n c) ∧ Below w.heap.size w w' ∧ w'.ownsRow w.heap.size et sz (.slice A n c) n cs
set_option maxRecDepth 100000 in
theorem clone_txs (w : World) (l : List TxM) (hl : l.length ≤ 100000) (A : Option Addr) (c : Nat) (HR : Reads w w.heap.size 8 A l.length (xcells l)) :
  Calls Tryz.prog 116 #[.slice A l.length c] w (CloneOEnd w 80 8 l.length (xcells l)):=by
 have HP : Hid (∀ A' c' w',Below w.heap.size w w' → w'.ownsRow w.heap.size 80 8 (.slice A' l.length c') l.length (xcells l) → CloneOEnd w 80 8 l.length (xcells l) (.returned (.slice A' l.length c')) w'):=Lib.hid (fun A' c' w' h1 h2=>⟨A',c',rfl,h1,h2⟩)
 generalize CloneOEnd w 80 8 l.length (xcells l) = P at HP ⊢
 have HL:=Lib.hid hl
 cases A with
 | none =>
  have h0 : l = []:=by
   cases l with
   | nil=>rfl
   | cons x r=>obtain ⟨a,o,h,_⟩:=HR.form (by simp) (by decide); cases h
  subst h0
  have he : (binOp .eql 68 (.slice none 0 c) (.slice none 0 0)).run Tryz.prog w = .ok (.bool true) w:=eql_nil Tryz.underlying68 w none 0 c
  go_enter Tryz.func116,Tryz.ntmps116
  go_wp2_with fail
  exact HP.out none 0 w (Below.refl _ _) (World.ownsRow_nil _ _ _ _)
 | some ad =>
  have HRR:=Lib.hid HR
  clear HR hl
  have he : (binOp .eql 68 (.slice (some ad) l.length c) (.slice none 0 0)).run Tryz.prog w = .ok (.bool false) w:=eql_nil Tryz.underlying68 w (some ad) l.length c
  obtain ⟨i0,hi0,hz0,hz1,hz2⟩:=info_parts info_tx
  go_enter Tryz.func116,Tryz.ntmps116
  go_upto_region 3 with fail
  have F1:=Live.hb (Lib.hid (Live.start w)) ((Below.refl _ w).alloc (Nat.le_refl _) (.cells #[] 80))
  have O1:=World.ownsRow_made (base:=w.heap.size) (e:=80) (size:=8) w #[] 0 (Nat.le_refl _) (by simp only [maxLen]; omega) rfl
  have RA : Reads (w.alloc (.cells #[] 80)) w.heap.size 8 (some ad) l.length (xcells l):=HRR.out.below F1.out.b
  have hll:=HL.out
  go_wp2_with (at_builtin; refine wpList_append_any (w.alloc (.cells #[] 80)) rfl _ _ 68 rfl w.heap.size 80 i0 _ 8 112 Tryz.underlying68 hi0 hz0 hz1 hz2 rfl (by decide) (.slice (some ⟨w.heap.size,0,none⟩) 0 0) 0 [] rfl O1 w.heap.size (some ad) l.length c (xcells l) rfl RA (xcells_one _) (by simp only [maxLen]; omega) (by omega) F1.out.b.size ?_; intro v2 w2 own2 hg2 _; rw [Nat.zero_add,List.nil_append] at own2; obtain ⟨A2,c2,rfl,_,_,_⟩:=own_form own2; have H2:=Lib.hid own2; have HG:=Lib.hid (F1.out.b.grown hg2 F1.out.b.size (fun k e=>Nat.le_of_eq (Option.some.inj e))); clear own2 hg2)
  exact HP.out A2 c2 _ HG.out H2.out
def ClonedEnd (w : World) (l : List TxM) (e : Ending) (w' : World) : Prop :=
 ∃ l' A' c',e = .returned (.slice A' l'.length c') ∧ Below w.heap.size w w' ∧ l'.map (·.1) = l.map (·.1) ∧ TxsAt w' A' l' ∧ (∀ a,A' = some a → w.heap.size ≤ a.block) ∧ ∀ p ∈ l', ∀ a,p.2.1 = some a → w.heap.size ≤ a.block
structure ClI (w W : World) (l cur : List TxM) (A : Option Addr) (c i : Nat) : Prop where
 n : cur.length = l.length
 m : cur.map (·.1) = l.map (·.1)
 own : W.ownsRow w.heap.size 80 8 (.slice A cur.length c) cur.length (xcells cur)
 new : ∀ j (hj : j < cur.length),j < i → Reads W W.heap.size 2 cur[j].2.1 cur[j].1.mem.length (mcells cur[j].1.mem) ∧ ∀ a,cur[j].2.1 = some a → w.heap.size ≤ a.block ∧ ∀ b,A = some b → a.block ≠ b.block
 old : ∀ j (hj : j < cur.length),i ≤ j → l[j]? = some cur[j]
 b : Below w.heap.size w W
set_option maxRecDepth 100000 in
set_option maxHeartbeats 2000000 in
theorem led_cloned (w : World) (l : List TxM) (A : Option Addr) (c : Nat) (HT : TxsAt w A l) (hl : l.length ≤ 100000) (hm : ∀ p ∈ l,p.1.mem.length ≤ 100000) : Calls Tryz.prog 73 #[.slice A l.length c] w (ClonedEnd w l):=by
 have HP : Hid (∀ l' A' c' w',Below w.heap.size w w' → l'.map (·.1) = l.map (·.1) → TxsAt w' A' l' → (∀ a,A' = some a → w.heap.size ≤ a.block) → (∀ p ∈ l', ∀ a,p.2.1 = some a → w.heap.size ≤ a.block) → ClonedEnd w l (.returned (.slice A' l'.length c')) w'):=Lib.hid (fun l' A' c' w' h1 h2 h3 h4 h5=>⟨l',A',c',rfl,h1,h2,h3,h4,h5⟩)
 generalize ClonedEnd w l = P at HP ⊢
 have HC:=Lib.hid (clone_txs w l hl A c HT.r)
 have HTT:=Lib.hid HT
 have HL:=Lib.hid (And.intro hl hm)
 clear HT hl hm
 go_enter Tryz.func73,Tryz.ntmps73
 go_wp2_with fail
 refine HC.out.mono ?_
 rintro e w1 ⟨A1,c1,rfl,hb,own⟩
 have HI0 : Hid (ClI w w1 l l A1 c1 0):=Lib.hid ⟨rfl,rfl,own,fun j _ hj=>by omega,fun j hj _=>List.getElem?_eq_getElem hj,hb⟩
 clear hb own HC
 go_wp2_with fail
 refine wp_loop_ghost_k (fun k a wr => ∀ Φ : Act → Prop,(∀ (s0 s1 s4 s5 s6 s10 s11 s12 s13 s14 s15 s16 s17 s18 s19 s20 s21 s22 s23 : Value) (i : Nat) (cur : List TxM),(i + k = l.length ∧ ClI w wr l cur A1 c1 i) → Φ { tmps:=#[s0,s1,.slice none 0 0,.slice A1 l.length c1,s4,s5,s6,.slice A1 l.length c1,.int .i64 (l.length : Int),.int .i64 (i : Int),s10,s11,s12,s13,s14,s15,s16,s17,s18,s19,s20,s21,s22,s23],defers := [] }) → Φ a) (l.length) ?_ ?_
 ·refine fun Φ hΦ=>hΦ _ _ _ _ _ _ _ _ _ _ _ _ _ _ _ _ _ _ _ (0) (l) ?_
  exact ⟨by omega,HI0.out⟩
 ·intro k1 a1 wr1 hI1 J1 K1 hJ1 hK1
  refine hI1 (fun a=>Code.wp _ _ _ a _) ?_
  clear hI1 a1
  intro s0 s1 s2 s3 s4 s5 s6 s7 s8 s9 s10 s11 s12 s13 s14 s15 s16 s17 s18 i cur hrel
  show Code.wp _ _ _ _ _
  obtain ⟨h1,hI⟩:=hrel
  by_cases hi : i < l.length
  ·have hic : i < cur.length:=by rw [hI.n]; exact hi
   have hlp : l[i] = cur[i]:=by
    have:=hI.old i hic (Nat.le_refl _)
    rw [List.getElem?_eq_getElem hi] at this
    exact Option.some.inj this
   have HM:=(HTT.out.next hI.b).m _ (List.getElem_mem hi)
   have HL5:=HL.out.2 _ (List.getElem_mem hi)
   rw [hlp] at HM HL5
   have HCm:=Lib.hid (clone_mems wr1 _ HL5 _ cur[i].2.2 HM)
   obtain ⟨g,hA⟩ : ∃ g,A1 = some ⟨g,0,none⟩:=by
    rcases hI.own.2 with ⟨_,h0⟩ | ⟨g,_,_,e0,_⟩
    ·omega
    ·injection e0 with e0 _ _
     exact ⟨g,e0⟩
   have own:=hI.own
   rw [hA] at own
   have r7 : wr1.cell? ⟨g,0 + i * 8 + 7,none⟩ = some (.slice cur[i].2.1 cur[i].1.mem.length cur[i].2.2):=by
    obtain ⟨ad,off,e1,_,hc⟩:=tx_cells (Reads.of_own own) hic
    injection e1 with e1
    injection e1 with e2 e3 _
    subst e2
    subst e3
    exact (hc _ (Below.refl _ _)).2.2.2.2.2.2.2
   have HSet:=Lib.hid (fun A' c'=>xcells_set cur i hic A' c')
   have HOwn:=Lib.hid own
   have HI:=Lib.hid hI
   have HHi:=Lib.hid (And.intro h1 (And.intro hic hA))
   have hi1 : (i : Int) < l.length:=by omega
   have hi0 : (0 : Int) ≤ i:=by omega
   have hwi : IntKind.i64.wrap ((i : Int) + 1) = (i : Int) + 1:=IntWalk.i64_in _ (by have:=HL.out.1; omega)
   have hn:=hI.n
   obtain ⟨o,ho⟩ : ∃ o,o = 0:=⟨0,rfl⟩
   have HO:=Lib.hid ho
   have hA2 : A1 = some ⟨g,o,none⟩:=by rw [hA,ho]
   have HA2:=Lib.hid hA2
   have r7 : wr1.cell? ⟨g,o + i * 8 + 7,none⟩ = some (.slice cur[i].2.1 cur[i].1.mem.length cur[i].2.2):=by rw [ho]; exact r7
   rw [hA2]
   clear hA2
   clear ho own hI h1 HM HL5 hlp hA hn hi
   generalize hp : cur[i] = p at *
   have HP5:=Lib.hid hp
   clear hp
   obtain ⟨x,mA,mc⟩:=p
   simp only at r7 HCm HSet
   go_wp2_with fail
   refine HCm.out.mono ?_
   rintro e w2 ⟨A2,c2,rfl,hb2,hr2,hf2,_⟩
   have O2:=own_below HOwn.out hb2
   have r7 : w2.cell? ⟨g,o + i * 8 + 7,none⟩ = some (.slice mA x.mem.length mc):=by rw [← r7]; exact hb2.cell (HOwn.out.lt _ rfl).2
   have fz7 : w2.frozen? ⟨g,o + i * 8 + 7,none⟩ = false:=O2.frozenAt _
   have ST:=O2.stored (i * 8 + 7) (.slice A2 x.mem.length c2)
   rw [HSet.out] at ST
   have hoe : o + i * 8 + 7 = i * 8 + 7:=by have:=HO.out; omega
   rw [← hoe] at ST
   have ST:=Lib.hid ST
   have H2:=Lib.hid (And.intro hb2 (And.intro hr2 hf2))
   clear O2 hb2 hr2 hf2 hoe HCm
   go_upto_region 6 with fail
   have HGR:=ST.out.2
   have HON:=ST.out.1
   generalize w2.setCell ⟨g,o + i * 8 + 7,none⟩ (.slice A2 x.mem.length c2) = w3 at HGR HON ⊢
   have H3:=Lib.hid (And.intro HGR HON)
   clear HGR HON ST r7 fz7
   go_wp2_with fail
   rw [← HA2.out]
   refine Handed.intro (l.length - (i + 1)) ?_ (hJ1 _ _ _ (fun Φ hΦ=>hΦ _ _ _ _ _ _ _ _ _ _ _ _ _ _ _ _ _ _ _ (i + 1) (cur.set i (x,A2,c2)) ?_))
   ·have:=HHi.out.1; omega
   ·have hI:=HI.out
    obtain ⟨_,hic,hA⟩:=HHi.out
    obtain ⟨hb2,hr2,hf2⟩:=H2.out
    obtain ⟨hg3,ho3⟩:=H3.out
    have hgl:=HOwn.out.lt g rfl
    refine ⟨by have:=HHi.out.1; omega, ?_⟩
    refine ⟨by rw [List.length_set]; exact hI.n, ?_, ?_, ?_, ?_, ?_⟩
    ·rw [List.map_set,← hI.m]
     apply List.ext_getElem?
     intro k
     by_cases hk : i = k
     ·subst hk
      rw [List.getElem?_set_self (by rw [List.length_map]; exact hic),List.getElem?_map,List.getElem?_eq_getElem hic,HP5.out]
      rfl
     ·rw [List.getElem?_set_ne hk]
    ·rw [List.length_set,hA]; exact ho3
    ·intro j hj hji
     rw [List.length_set] at hj
     by_cases hk : i = j
     ·subst hk
      rw [List.getElem_set_self]
      simp only
      refine ⟨reads_off hr2 hg3 (fun a ha e => ?_),fun a ha=>⟨Nat.le_trans hI.b.size (hf2 a ha).1,fun b hb => ?_⟩⟩
      ·have h5:=(hf2 a ha).1
       have h6 : g < wr1.heap.size:=hgl.2
       have h7:=Option.some.inj e
       omega
      ·rw [hA] at hb
       have hb:=Option.some.inj hb
       subst hb
       have h5:=(hf2 a ha).1
       have h6 : g < wr1.heap.size:=hgl.2
       simp only
       omega
     ·rw [List.getElem_set_ne hk]
      obtain ⟨n1,n2⟩:=hI.new j hj (by omega)
      refine ⟨reads_off ((n1.below hb2).more hb2.size) hg3 (fun a ha e=>(n2 a ha).2 _ hA (Option.some.inj e)),n2⟩
    ·intro j hj hij
     rw [List.length_set] at hj
     rw [List.getElem_set_ne (by omega)]
     exact hI.old j hj (by omega)
    ·exact (hI.b.nxt hb2).grown hg3 (Nat.le_trans hI.b.size hb2.size) (fun k e=>by have h5:=Option.some.inj e; have h6 : w.heap.size ≤ g:=hgl.1; omega)
  ·have hi1 : ((i : Int) < l.length) = False:=by simp; omega
   have HE:=Lib.hid hI
   have hil : i = l.length:=by omega
   subst hil
   clear hI h1 hi
   go_wp2_with fail
   have hn:=HE.out.n
   rw [← hn]
   refine HP.out cur A1 c1 _ HE.out.b HE.out.m ⟨Reads.of_own HE.out.own,fun p hp => ?_,fun p hp => ?_,by rw [hn]; exact HTT.out.n⟩ ?_ ?_
   ·obtain ⟨j,hj,rfl⟩:=List.mem_iff_getElem.1 hp
    exact (HE.out.new j hj (by omega)).1
   ·have : p.1 ∈ l.map (·.1):=by rw [← HE.out.m]; exact List.mem_map_of_mem hp
    obtain ⟨q,hq,e⟩:=List.mem_map.1 this
    rw [← e]
    exact HTT.out.t q hq
   ·intro a ha
    subst ha
    exact (HE.out.own.lt _ rfl).1
   ·intro p hp a ha
    obtain ⟨j,hj,rfl⟩:=List.mem_iff_getElem.1 hp
    exact ((HE.out.new j hj (by omega)).2 a ha).1
end Go.Proofs.YtnelhjfjkkdoaaaGreatDoor
namespace Go.Proofs.YtnelhjfjkkdoaaaGreatDoor
open Go.RowKit Go.Instr
theorem Led.nextE_eq (L : List En) (p : En) (view : Int) (txs : List Ex.Tx) (t : Trie.T) (D : List Ex.Rc) (M : List Pw.Mem) (EP : Int) (LB : Bool) (stt RR TR : List UInt8) (N : List Pw.Mem) (NX : List UInt8) (S : List (List UInt8))
  (h1 : (if p.hd.last then p.hd.epo + 1 else p.hd.epo) = EP) (h2 : decide (0 < M.length) = LB) (h3 : Trie.sumT t = stt) (h4 : Led.rootR D = RR) (h5 : Ex.rootX txs = TR) (h6 : (if M.isEmpty then p.nxt else M) = N)
  (h7 : (if M.isEmpty then p.hd.nxt else Pw.digM M) = NX) (h8 : (Hd.linksH (p.hd.hgt + 1)).map (Led.sumAt L) = S) :
  Led.nextE L p view txs t D M = ⟨⟨p.hd.hgt + 1,EP,view,LB,p.sum,stt,RR,TR,p.hd.nxt,NX,S⟩,Hd.dig ⟨p.hd.hgt + 1,EP,view,LB,p.sum,stt,RR,TR,p.hd.nxt,NX,S⟩,txs,D,t,p.nxt,N⟩:=by
 have hb : (!M.isEmpty) = LB:=by rw [← h2]; cases M <;> simp
 unfold Led.nextE Led.nextH
 rw [hb,h1,h3,h4,h5,h6,h7,h8]
theorem led_int_cell {w : World} {B : Nat} {A : Option Addr} {l : List Nat} (h : Reads w B 1 A l.length (ints l)) {i : Nat} (hi : i < l.length) :
  ∃ ad off,A = some ⟨ad,off,none⟩ ∧ ad < B ∧ ∀ w',Below B w w' → w'.cell? ⟨ad,off + i,none⟩ = some (.int .i64 (l[i] : Int)):=by
 obtain ⟨ad,off,rfl,hbl,hcell⟩:=h.form (by omega) (by omega)
 refine ⟨ad,off,rfl,hbl,fun w' hb => ?_⟩
 have q:=hcell i (by rw [ints_length]; exact hi)
 simp only [ints,List.getElem_map] at q
 exact (hb.cell (p:=⟨ad,off + i,none⟩) hbl).trans q
theorem h10_get {H10 : List Value} (h : H10.length = 10) (v : Value) : (H10 ++ [v]).toArray[10]? = some v:=by
 rw [List.getElem?_toArray,List.getElem?_append_right (by omega),h]; rfl
theorem h10_set {H10 : List Value} (h : H10.length = 10) (v u : Value) : (H10 ++ [v]).toArray.setIfInBounds 10 u = (H10 ++ [u]).toArray:=by
 rw [List.setIfInBounds_toArray,List.set_append_right _ _ (by omega),h]; rfl
structure LoopI (w w3 W : World) (L : List (Nat × Nat × Array Value)) (hb : Nat) (H10 : List Value) (S : List (List UInt8)) (SA : Option Addr) (SC : Nat) : Prop where
 own : W.ownsRow w3.heap.size 9 1 (.slice SA S.length SC) S.length (strv S)
 f3 : Live w3 W [(hb,65,(H10 ++ [Value.slice SA S.length SC]).toArray)]
 f : Live w W ((hb,65,(H10 ++ [Value.slice SA S.length SC]).toArray) :: L)
end Go.Proofs.YtnelhjfjkkdoaaaGreatDoor
