import Derived.Test.YtdkiloganbhfkaaGreatDoorJ37
set_option linter.unusedSimpArgs false
set_option linter.unusedVariables false
set_option maxHeartbeats 4000000
set_option maxRecDepth 100000
namespace Go.Proofs.YtdkiloganbhfkaaGreatDoor
section
open Go.RowKit Go.Instr
attribute [local go_sem] ba_get ByteArray.mk_append_mk
attribute [local go_sem ↓] Go.wp_at_zero Go.wp_at_succ
structure TrM where
 h:Hd
 kA:Option Addr
 kc:Nat
 nx:List Pw.Mem
 nA:Option Addr
 nc:Nat
 ta:Int
def tcell (t:TrM):List Value:= [.int .i64 t.h.hgt,.int .i64 t.h.epo,.int .i64 t.h.vw,.bool t.h.last,.string ⟨t.h.par.toArray⟩,.string ⟨t.h.st.toArray⟩,.string ⟨t.h.rc.toArray⟩,.string ⟨t.h.tx.toArray⟩,.string ⟨t.h.mem.toArray⟩,.string ⟨t.h.nxt.toArray⟩,.slice t.kA t.h.sk.length t.kc,.slice t.nA t.nx.length t.nc,.int .i64 t.ta]
abbrev tcells (l:List TrM):List Value:=l.flatMap tcell
theorem tcell_one (t:TrM):∀ u∈tcell t,u.oneCell'=true:=by
 intro u hu;simp only [tcell,List.mem_cons,List.not_mem_nil,or_false] at hu;rcases hu with rfl|rfl|rfl|rfl|rfl|rfl|rfl|rfl|rfl|rfl|rfl|rfl|rfl<;>rfl
structure TrOk (w:World) (t:TrM):Prop where
 o:OkH t.h
 k:Reads w w.heap.size 1 t.kA t.h.sk.length (strv t.h.sk)
 n:Reads w w.heap.size 2 t.nA t.nx.length (mcells t.nx)
 l:∀ m∈t.nx,m.1.length≤9223372036854775807
 kl:t.h.sk.length≤100000
 nl:t.nx.length≤100000
 kb:∀ a,t.kA=some a→a.block<w.heap.size
 nb:∀ a,t.nA=some a→a.block<w.heap.size
structure TrRd (w:World) (t:TrM):Prop where
 o:OkH t.h
 k:Reads w w.heap.size 1 t.kA t.h.sk.length (strv t.h.sk)
 n:Reads w w.heap.size 2 t.nA t.nx.length (mcells t.nx)
 l:∀ m∈t.nx,m.1.length≤9223372036854775807
 kl:t.h.sk.length≤100000
 nl:t.nx.length≤100000
theorem TrRd.next {w w':World} {t:TrM} (h:TrRd w t) (hb:Below w.heap.size w w'):TrRd w' t:={h with k:=(h.k.below hb).more hb.size,n:=(h.n.below hb).more hb.size}
theorem TrOk.rd {w:World} {t:TrM} (h:TrOk w t):TrRd w t:=⟨h.o,h.k,h.n,h.l,h.kl,h.nl⟩
theorem TrOk.next {w w':World} {t:TrM} (h:TrOk w t) (hb:Below w.heap.size w w'):TrOk w' t:={h with k:=(h.k.below hb).more hb.size,n:=(h.n.below hb).more hb.size,kb:=fun a ha=>Nat.lt_of_lt_of_le (h.kb a ha) hb.size,nb:=fun a ha=>Nat.lt_of_lt_of_le (h.nb a ha) hb.size}
def TrM.off (t:TrM) (b:Nat):Prop:=(∀ a,t.kA=some a→a.block≠b)∧(∀ a,t.nA=some a→a.block≠b)
theorem TrOk.far {w w':World} {t:TrM} (h:TrOk w t) {row:Option Nat} (hg:w.grownBy w' row) (hne:∀ k,row=some k→t.off k):TrOk w' t:=
 {h with k:=reads_off h.k hg (fun a ha e=>(hne _ e.symm).1 a ha rfl),n:=reads_off h.n hg (fun a ha e=>(hne _ e.symm).2 a ha rfl),kb:=fun a ha=>Nat.lt_of_lt_of_le (h.kb a ha) hg.size,nb:=fun a ha=>Nat.lt_of_lt_of_le (h.nb a ha) hg.size}
structure SyM where
 now:TrM
 since:List TrM
 sA:Option Addr
 sc:Nat
 goal:Int
 far:Int
 rounds:Int
abbrev SyM.sl (s:SyM):Value:= .slice s.sA s.since.length s.sc
def SyM.clear (s:SyM) (sb:Nat) (t:TrM):Prop:=t.off sb∧∀ k,s.sl.ownBlock=some k→t.off k
structure SyAt (w:World) (sb:Nat) (s:SyM):Prop where
 blk:Blk w sb 112 (η s.now.h [.slice s.now.kA s.now.h.sk.length s.now.kc,.slice s.now.nA s.now.nx.length s.now.nc,s.now.ta,.slice s.sA s.since.length s.sc,s.goal,s.far,s.rounds])
 own:w.ownsRow (sb+1) 48 13 s.sl s.since.length (tcells s.since)
 now:TrOk w s.now∧s.clear sb s.now
 all:∀ t∈s.since,TrOk w t∧s.clear sb t
theorem SyAt.next {w w':World} {sb:Nat} {s:SyM} (h:SyAt w sb s) (hb:Below w.heap.size w w'):SyAt w' sb s:=
 ⟨h.blk.below hb h.blk.lt,own_below h.own hb,⟨h.now.1.next hb,h.now.2⟩,fun t ht=>⟨(h.all t ht).1.next hb,(h.all t ht).2⟩⟩
theorem SyAt.drew {w:World} {sb:Nat} {s:SyM} (h:SyAt w sb s):SyAt w.drew sb s:=h.next ⟨rfl,rfl,rfl,Nat.le_refl _,fun _ _=>rfl⟩
def OwnEnd (w:World) (t:TrM) (e:Ending) (w':World):Prop:=
 ∃ (kA:Option Addr) (kc:Nat) (nA:Option Addr) (nc:Nat),e= .returned (.agg (η t.h [.slice kA t.h.sk.length kc,.slice nA t.nx.length nc,t.ta]))∧Below w.heap.size w w'∧TrOk w' ⟨t.h,kA,kc,t.nx,nA,nc,t.ta⟩∧(∀ a,kA=some a→w.heap.size≤a.block)∧(∀ a,nA=some a→w.heap.size≤a.block)
theorem sync_own (w:World) (t:TrM) (ht:TrRd w t):Calls Tryz.prog 44 #[.agg (η t.h [.slice t.kA t.h.sk.length t.kc,.slice t.nA t.nx.length t.nc,t.ta])] w (OwnEnd w t):=by
 have HP:Hid (∀ kA kc nA nc w',Below w.heap.size w w'→TrOk w' ⟨t.h,kA,kc,t.nx,nA,nc,t.ta⟩→(∀ a,kA=some a→w.heap.size≤a.block)→(∀ a,nA=some a→w.heap.size≤a.block)→OwnEnd w t (.returned (.agg (η t.h [.slice kA t.h.sk.length kc,.slice nA t.nx.length nc,t.ta]))) w'):=ι (fun kA kc nA nc w' h1 h2 h3 h4=>⟨kA,kc,nA,nc,rfl,h1,h2,h3,h4⟩);generalize OwnEnd w t=P at HP ⊢;have HCs:=ι (fun W (hW:Below w.heap.size w W)=>clone_strs W t.h.sk ht.kl t.kA t.kc ((ht.k.below hW).more hW.size));have HCm:=ι (fun W (hW:Below w.heap.size w W)=>clone_mems W t.nx ht.nl t.nA t.nc ((ht.n.below hW).more hW.size));have HT:=ι ht;have SZT:Hid ((Tryz.prog.info? 48).map (·.size)=some 13):=ι (by kernel_rfl);clear ht;go_enter Tryz.func44,Tryz.ntmps44
 go_upto_region 1 with fail
 have F0:=Live.ha (Live.ha (ι (Live.start w)) (η t.h [.slice t.kA t.h.sk.length t.kc,.slice t.nA t.nx.length t.nc,t.ta]) 48) (θ [ν,ν,ζ]) 48;simp only [World.size_alloc] at F0;generalize (w.alloc (.cells (η t.h [.slice t.kA t.h.sk.length t.kc,.slice t.nA t.nx.length t.nc,t.ta]) 48)).alloc (.cells (θ [ν,ν,ζ]) 48)=W0 at F0 ⊢;generalize hrb:w.heap.size+1=rb at F0 ⊢;have HR:Hid (w.heap.size≤rb):=ι (by omega);clear hrb;have HTB:Hid (w.heap.size≤w.heap.size):=ι (Nat.le_refl _);generalize htb:w.heap.size=tb at F0 ⊢;have HW0:=ι htb;clear htb;have k10:=(F0.out.blk 1 rfl).d10;have HC1:=ι (HCs.out _ F0.out.b);go_wp2_with fail
 refine HC1.out.mono ?_;rintro e W1 ⟨kA,kc,rfl,hb,hr,hk,_⟩;have F1:=Live.hb F0 hb;have HK:=ι (And.intro hr (And.intro (fun a ha=>Nat.le_trans F0.out.b.size (hk a ha).1) (fun a ha=>Nat.lt_of_lt_of_le (F0.out.lt 1 rfl) (hk a ha).1)));have HKr:=ι (fun a ha=>And.intro (Nat.lt_of_lt_of_le (F0.out.lt 0 rfl) (hk a ha).1) (hk a ha).2);clear hb hr hk k10 HC1 F0;have k10:=(F1.out.blk 1 rfl).d10;have fz:=F1.out.frozen 1 10 rfl;go_upto_region 2 with fail
 have F2:=Live.hs F1 1 10 (.slice kA t.h.sk.length kc) rfl;have R2:=ι (reads_off HK.out.1 (grown_cell (World.grownBy.refl W1 (some tb)) 10 (.slice kA t.h.sk.length kc)) (fun a ha e=>by have:=HK.out.2.2 a ha; have:=Option.some.inj e; omega));simp only [List.set_cons_zero,List.setIfInBounds_toArray,List.set_cons_succ] at F2;have HZ:Hid (W1.heap.size≤(W1.setCell ⟨tb,10,none⟩ (.slice kA t.h.sk.length kc)).heap.size):=ι (grown_cell (World.grownBy.refl W1 (some tb)) 10 (.slice kA t.h.sk.length kc)).size;generalize W1.setCell ⟨tb,10,none⟩ (.slice kA t.h.sk.length kc)=W2 at F2 R2 HZ ⊢;clear k10 fz F1;have k11:=(F2.out.blk 1 rfl).d11;have HC1:=ι (HCm.out _ F2.out.b);go_wp2_with fail
 refine HC1.out.mono ?_;rintro e W3 ⟨nA,nc,rfl,hb,hr,hk,_⟩;have F3:=Live.hb F2 hb;have HN:=ι (And.intro hr (And.intro (fun a ha=>Nat.le_trans F2.out.b.size (hk a ha).1) (fun a ha=>Nat.lt_of_lt_of_le (F2.out.lt 1 rfl) (hk a ha).1)));have HNr:=ι (fun a ha=>And.intro (Nat.lt_of_lt_of_le (F2.out.lt 0 rfl) (hk a ha).1) (hk a ha).2);have R3:=ι ((R2.out.below hb).more hb.size);have HKs:Hid (∀ a,kA=some a→a.block<W3.heap.size):=ι (fun a ha=>Nat.lt_of_lt_of_le (HKr.out a ha).2 (Nat.le_trans HZ.out hb.size));clear hb hr hk k11 HC1 F2;have k11:=(F3.out.blk 1 rfl).d11;have fz:=F3.out.frozen 1 11 rfl;go_upto_region 3 with fail
 have F4:=Live.hs F3 1 11 (.slice nA t.nx.length nc) rfl;have HG:=grown_cell (World.grownBy.refl W3 (some tb)) 11 (.slice nA t.nx.length nc);have R4:=ι (reads_off R3.out HG (fun a ha e=>by have:=HK.out.2.2 a ha; have:=Option.some.inj e; omega));have N4:=ι (reads_off HN.out.1 HG (fun a ha e=>by have:=HN.out.2.2 a ha; have:=Option.some.inj e; omega));simp only [List.set_cons_zero,List.setIfInBounds_toArray,List.set_cons_succ] at F4;have HZ4:Hid (W3.heap.size≤(W3.setCell ⟨tb,11,none⟩ (.slice nA t.nx.length nc)).heap.size):=ι HG.size;generalize W3.setCell ⟨tb,11,none⟩ (.slice nA t.nx.length nc)=W4 at F4 R4 N4 HZ4 HG ⊢;clear k11 fz F3 HG R3 R2;have RG:W4.rangeAt tb 0 (η t.h [.slice kA t.h.sk.length kc,.slice nA t.nx.length nc,t.ta]):=range_of_blk (F4.out.blk 1 rfl);have TH:W4.there rb 0 13:=F4.out.there 0 13 rfl (by decide);have F9:Hid (Live w (W4.setCells rb 0 (η t.h [.slice kA t.h.sk.length kc,.slice nA t.nx.length nc,t.ta])) [(rb,48,(η t.h [.slice kA t.h.sk.length kc,.slice nA t.nx.length nc,t.ta])),(tb,48,(η t.h [.slice kA t.h.sk.length kc,.slice nA t.nx.length nc,t.ta]))]):=Live.hall F4 0 _ rfl rfl;have HG:W4.grownBy (W4.setCells rb 0 (η t.h [.slice kA t.h.sk.length kc,.slice nA t.nx.length nc,t.ta])) (some rb):=grown_setAll _ 0 _ (World.grownBy.refl _ _);have R9:=ι (reads_off R4.out HG (fun a ha e=>by have:=(HKr.out a ha).1; have:=Option.some.inj e; omega));have N9:=ι (reads_off N4.out HG (fun a ha e=>by have:=(HNr.out a ha).1; have:=Option.some.inj e; omega));have hr:=run_loadVar_mid (P:=Tryz.prog) (W4.setCells rb 0 (η t.h [.slice kA t.h.sk.length kc,.slice nA t.nx.length nc,t.ta])) rb 0 48 (η t.h [.slice kA t.h.sk.length kc,.slice nA t.nx.length nc,t.ta]) _ (range_of_blk (F9.out.blk 0 rfl)) Tryz.underlying48 rfl SZT.out;obtain ⟨W9,h9⟩:∃ W9,W4.setCells rb 0 ((η t.h [.slice kA t.h.sk.length kc,.slice nA t.nx.length nc,t.ta]):Array Value).toList=W9:=⟨_,rfl⟩
 have h9b:W4.setCells rb 0 [.int .i64 t.h.hgt,.int .i64 t.h.epo,.int .i64 t.h.vw,.bool t.h.last,.string ⟨t.h.par.toArray⟩,.string ⟨t.h.st.toArray⟩,.string ⟨t.h.rc.toArray⟩,.string ⟨t.h.tx.toArray⟩,.string ⟨t.h.mem.toArray⟩,.string ⟨t.h.nxt.toArray⟩,.slice kA t.h.sk.length kc,.slice nA t.nx.length nc,.int .i64 t.ta]=W9:=h9;have HZ9:Hid (W3.heap.size≤W9.heap.size):=ι (by rw [←h9b]; exact Nat.le_trans HZ4.out HG.size);rw [h9b] at F9 hr R9 N9;have H9:=ι h9;clear h9b h9 HG;go_wp2_with (first|((with_reducible refine at_load 13 ?_); refine wpList_load_mid rfl 48 _ rfl tb 0 rfl (η t.h [.slice kA t.h.sk.length kc,.slice nA t.nx.length nc,t.ta]) _ RG Tryz.underlying48 rfl SZT.out ?_)|((with_reducible refine at_store 13 ?_); refine wpList_store_as rfl 48 _ _ rfl rb 0 (η t.h [.slice kA t.h.sk.length kc,.slice nA t.nx.length nc,t.ta]) rfl rfl TH SZT.out (by simp [Value.oneCell']) W9 H9.out ?_))
 (try simp only [Exit.inBlock,Exit.then])
 refine bodyPost_ret (v:= .agg (η t.h [.slice kA t.h.sk.length kc,.slice nA t.nx.length nc,t.ta])) (results_one_cell Tryz.results44 rfl hr) rfl ?_;exact HP.out kA kc nA nc W9 F9.out.b ⟨HT.out.o,R9.out,N9.out,HT.out.l,HT.out.kl,HT.out.nl,fun a ha=>Nat.lt_of_lt_of_le (HKs.out a ha) HZ9.out,fun a ha=>Nat.lt_of_lt_of_le (HNr.out a ha).2 HZ9.out⟩ HK.out.2.1 HN.out.2.1
theorem sync_height (w:World) (sb:Nat) (s:SyM) (h:SyAt w sb s):Calls Tryz.prog 45 #[.pointer (some ⟨sb,0,none⟩)] w fun e w'=>e= .returned (.int .i64 s.now.h.hgt)∧w=w':=by
 have k0:w.cell? ⟨sb,0,none⟩=some (.int .i64 s.now.h.hgt):=h.blk.cell 0;have HP:Hid ((fun e w'=>e=Ending.returned (.int .i64 s.now.h.hgt)∧w=w') (Ending.returned (.int .i64 s.now.h.hgt)) w):=ι ⟨rfl,rfl⟩;generalize (fun e w'=>e=Ending.returned (.int .i64 s.now.h.hgt)∧w=w')=P at HP ⊢;clear h;go_enter Tryz.func45,Tryz.ntmps45
 go_wp2_with fail
 exact HP.out
theorem sync_Rounds (w:World) (sb:Nat) (s:SyM) (h:SyAt w sb s):Calls Tryz.prog 18 #[.pointer (some ⟨sb,0,none⟩)] w fun e w'=>e= .returned (.int .i64 s.rounds)∧w=w':=by
 have k0:w.cell? ⟨sb,16,none⟩=some (.int .i64 s.rounds):=h.blk.cell 16;have HP:Hid ((fun e w'=>e=Ending.returned (.int .i64 s.rounds)∧w=w') (Ending.returned (.int .i64 s.rounds)) w):=ι ⟨rfl,rfl⟩;generalize (fun e w'=>e=Ending.returned (.int .i64 s.rounds)∧w=w')=P at HP ⊢;clear h;go_enter Tryz.func18,Tryz.ntmps18
 go_wp2_with fail
 exact HP.out
theorem sync_Done (w:World) (sb:Nat) (s:SyM) (h:SyAt w sb s):Calls Tryz.prog 17 #[.pointer (some ⟨sb,0,none⟩)] w (Ret w (.bool (decide (s.goal≤s.now.h.hgt)))):=by
 have HP:Hid (∀ w',Below w.heap.size w w'→Ret w (.bool (decide (s.goal≤s.now.h.hgt))) (.returned (.bool (decide (s.goal≤s.now.h.hgt)))) w'):=ι (fun w' h=>⟨rfl,h⟩);have HS:=ι h;have F0:=ι (Live.start w);generalize Ret w (.bool (decide (s.goal≤s.now.h.hgt)))=P at HP ⊢;clear h;go_enter Tryz.func17,Tryz.ntmps17
 go_upto_region 1 with fail
 have F:=live_drew F0;have HS:=ι HS.out.drew;refine wp_region_held_drew (S:=fun w'=>w'.cell? ⟨sb,14,none⟩=some (.int .i64 s.goal)∧True) (by kernel_rfl) ⟨HS.out.blk.cell 14,trivial⟩ (fun hHeld=> ?_);generalize w.drew=Wd at F HS hHeld ⊢;refine tk 0 3 rfl ?_;try go_frame
 refine tk 2 5 rfl ?_;try go_frame
 refine tk 3 6 rfl ?_;try go_frame
 refine tk 4 7 rfl ?_;try go_frame
 refine tk 5 8 rfl ?_;try go_frame
 refine tk 6 9 rfl ?_;try go_frame
 refine rd1 1 rfl (fun K hK=> ?_);go_simp
 refine (sync_height _ sb s HS.out).mono ?_;rintro e W ⟨rfl,rfl⟩;go_simp
 refine hK.out _ _ hHeld (fun hHeld=> ?_);clear hK K;try go_frame
 refine tk 7 10 rfl ?_;try go_frame
 refine tk 8 2 rfl ?_;try go_frame
 refine wpAnyH_done (by kernel_rfl) ?_ _;clear hHeld;go_wp2_with fail
 exact HP.out _ F.out.b
def AskEnd (w:World) (s:SyM) (e:Ending) (w':World):Prop:=e= .returned (.tuple #[if s.goal≤s.now.h.hgt then .agg #[ζ,ζ,ζ,ε,ε,ζ] else .agg #[.int .i64 2,s.now.h.hgt,s.far,ε,ε,ζ],.bool (!decide (s.goal≤s.now.h.hgt))])∧Below w.heap.size w w'
theorem sync_Ask (w:World) (sb:Nat) (s:SyM) (h:SyAt w sb s):Calls Tryz.prog 13 #[.pointer (some ⟨sb,0,none⟩)] w (AskEnd w s):=by
 have HP:Hid (∀ w',AskEnd w s (.returned (.tuple #[if s.goal≤s.now.h.hgt then .agg #[ζ,ζ,ζ,ε,ε,ζ] else .agg #[.int .i64 2,s.now.h.hgt,s.far,ε,ε,ζ],.bool (!decide (s.goal≤s.now.h.hgt))])) w'↔Below w.heap.size w w'):=ι (fun w'=>⟨fun h=>h.2,fun h=>⟨rfl,h⟩⟩);have HS:=ι h;have SZQ:Hid ((Tryz.prog.info? 50).map (·.size)=some 6):=ι (by kernel_rfl);have HDo:=ι (fun W (hW:SyAt W sb s)=>sync_Done W sb s hW);generalize AskEnd w s=P at HP ⊢;clear h;go_enter Tryz.func13,Tryz.ntmps13
 go_upto_region 1 with fail
 have F0:=Live.ha (ι (Live.start w)) #[ζ,ζ,ζ,ε,ε,ζ] 50;have HS0:=ι (HS.out.next ((Below.refl _ w).alloc (Nat.le_refl _) (.cells #[ζ,ζ,ζ,ε,ε,ζ] 50)));generalize World.alloc w _=W0 at F0 HS0 ⊢;generalize w.heap.size=qb at F0 ⊢;have HD1:=ι (HDo.out _ HS0.out);go_wp2_with fail
 refine HD1.out.mono ?_;rintro e W1 ⟨rfl,hb⟩;have F1:=Live.hb F0 hb;have HS1:=ι (HS0.out.next hb);clear hb HD1 HS0 F0;by_cases hd:s.goal≤s.now.h.hgt
 ·rw [if_pos hd,decide_eq_true hd] at HP;rw [decide_eq_true hd];clear hd;have TH:W1.there qb 0 6:=F1.out.there 0 6 rfl (by decide);have F9:Hid (Live w (W1.setCells qb 0 [ζ,ζ,ζ,ε,ε,ζ]) [(qb,50,#[ζ,ζ,ζ,ε,ε,ζ])]):=Live.hall F1 0 _ rfl rfl;have hr:=run_loadVar_mid (P:=Tryz.prog) (W1.setCells qb 0 [ζ,ζ,ζ,ε,ε,ζ]) qb 0 50 [ζ,ζ,ζ,ε,ε,ζ] _ (range_of_blk (F9.out.blk 0 rfl)) Tryz.underlying50 rfl SZQ.out;obtain ⟨W9,h9⟩:∃ W9,W1.setCells qb 0 (#[ζ,ζ,ζ,ε,ε,ζ]:Array Value).toList=W9:=⟨_,rfl⟩
  have h9b:W1.setCells qb 0 [.int .i64 0,.int .i64 0,.int .i64 0,.string ⟨#[]⟩,.string ⟨#[]⟩,.int .i64 0]=W9:=h9;rw [h9b] at F9 hr;have H9:=ι h9;clear h9b h9;go_wp2_with ((with_reducible refine at_store 6 ?_); refine wpList_store_as rfl 50 _ _ rfl qb 0 #[ζ,ζ,ζ,ε,ε,ζ] rfl rfl TH SZQ.out (by simp [Value.oneCell']) W9 H9.out ?_)
  (try simp only [Exit.inBlock,Exit.then])
  refine bodyPost_ret (v:= .tuple #[.agg #[ζ,ζ,ζ,ε,ε,ζ],false]) (results_load_tmp _ _ _ _ Tryz.results13 _ qb rfl _ _ hr) rfl ?_;exact (HP.out _).2 F9.out.b
 ·rw [if_neg hd,decide_eq_false hd] at HP;rw [decide_eq_false hd];clear hd;go_upto_region 3 with fail
  rename_i KK hKK;have F:=live_drew F1;have HS2:=ι HS1.out.drew;refine wp_region_held_drew (S:=fun w'=>w'.cell? ⟨sb,15,none⟩=some (.int .i64 s.far)∧True) (by kernel_rfl) ⟨HS2.out.blk.cell 15,trivial⟩ (fun hHeld=> ?_);generalize W1.drew=Wd at F HS2 hHeld ⊢;refine tk 0 7 rfl ?_;try go_frame
  refine tk 2 9 rfl ?_;try go_frame
  refine tk 3 10 rfl ?_;try go_frame
  refine tk 4 11 rfl ?_;try go_frame
  refine tk 5 12 rfl ?_;try go_frame
  refine tk 6 13 rfl ?_;try go_frame
  refine rd1 1 rfl (fun K hK=> ?_);go_simp
  refine (sync_height _ sb s HS2.out).mono ?_;rintro e W ⟨rfl,rfl⟩;go_simp
  refine hK.out _ _ hHeld (fun hHeld=> ?_);clear hK K;try go_frame
  refine tk 7 14 rfl ?_;try go_frame
  refine rd1 8 rfl (fun K hK=> ?_);refine step_store_all rfl 50 _ _ rfl qb 0 #[.int .i64 2,s.now.h.hgt,s.far,ε,ε,ζ] rfl rfl (F.out.there 0 6 rfl (by decide)) SZQ.out (by simp [Value.oneCell']) ?_;have F14:Hid (Live w (Wd.setCells qb 0 (#[.int .i64 2,s.now.h.hgt,s.far,ε,ε,ζ]:Array Value).toList) [(qb,50,#[.int .i64 2,s.now.h.hgt,s.far,ε,ε,ζ])]):=Live.hall F 0 _ rfl rfl;have HS3:=ι (HS.out.next F14.out.b);generalize Wd.setCells qb 0 (#[.int .i64 2,s.now.h.hgt,s.far,ε,ε,ζ]:Array Value).toList=W14 at F14 HS3 ⊢;refine hK.out _ _ ⟨HS3.out.blk.cell 15,trivial⟩ (fun hHeld=> ?_);clear hK K;try go_frame
  refine rd1 9 rfl (fun K hK=> ?_);go_simp
  refine hK.out _ _ hHeld (fun hHeld=> ?_);clear hK K;try go_frame
  refine wpAnyH_done (by kernel_rfl) ?_ _;clear hHeld;refine hKK _ _ (wp_ret ?_);have hr:=run_loadVar_mid (P:=Tryz.prog) W14 qb 0 50 [.int .i64 2,s.now.h.hgt,s.far,ε,ε,ζ] _ (range_of_blk (F14.out.blk 0 rfl)) Tryz.underlying50 rfl SZQ.out;refine bodyPost_ret (v:= .tuple #[.agg #[.int .i64 2,s.now.h.hgt,s.far,ε,ε,ζ],true]) (results_load_tmp _ _ _ _ Tryz.results13 _ qb rfl _ _ hr) rfl ?_;exact (HP.out _).2 F14.out.b
def newC (t:TrM) (goal:Int):Nat:=if Ac.trustB t.h t.nx t.ta=false then 3 else if goal≤t.h.hgt∨1048576<goal then 1 else 0
def NewEnd35 (w:World) (t:TrM) (goal:Int) (e:Ending) (w':World):Prop:=
 Below w.heap.size w w'∧((newC t goal≠0∧e= .returned (.tuple #[.pointer none,.int .i64 (newC t goal:Int)]))∨(newC t goal=0∧∃ (sb:Nat) (kA:Option Addr) (kc:Nat) (nA:Option Addr) (nc:Nat),w.heap.size≤sb∧e= .returned (.tuple #[.pointer (some ⟨sb,0,none⟩),ζ])∧SyAt w' sb ⟨⟨t.h,kA,kc,t.nx,nA,nc,t.ta⟩,[],none,0,goal,goal,0⟩))
theorem sync_New (w:World) (t:TrM) (ht:TrRd w t) (goal:Int) (hT:Tbl w):Calls Tryz.prog 12 #[.agg (η t.h [.slice t.kA t.h.sk.length t.kc,.slice t.nA t.nx.length t.nc,t.ta]),goal] w (NewEnd35 w t goal):=by
 have HPe:Hid (∀ (cd:Nat) w',newC t goal=cd→cd≠0→Below w.heap.size w w'→NewEnd35 w t goal (.returned (.tuple #[.pointer none,cd])) w'):=ι (fun cd w' e h0 h=>⟨h,.inl ⟨by rw [e]; exact h0,by rw [e]⟩⟩);have HPo:Hid (∀ sb kA kc nA nc w',newC t goal=0→Below w.heap.size w w'→w.heap.size≤sb→SyAt w' sb ⟨⟨t.h,kA,kc,t.nx,nA,nc,t.ta⟩,[],none,0,goal,goal,0⟩→NewEnd35 w t goal (.returned (.tuple #[.pointer (some ⟨sb,0,none⟩),ζ])) w'):=ι (fun sb kA kc nA nc w' e h h1 h2=>⟨h,.inr ⟨e,sb,kA,kc,nA,nc,h1,rfl,h2⟩⟩);generalize NewEnd35 w t goal=P at HPe HPo ⊢;have HX:Hid (newC t goal=if Ac.trustB t.h t.nx t.ta=false then 3 else if goal≤t.h.hgt∨1048576<goal then 1 else 0):=ι rfl;generalize newC t goal=X at HPe HPo HX;have HTr:=ι (fun W (hW:Below w.heap.size w W)=>trust_Check W t.h ht.o t.kA t.kc ((ht.k.below hW).more hW.size) t.nx ht.l t.nA t.nc ((ht.n.below hW).more hW.size) t.ta (hT.next hW));have HOw:=ι (fun W (hW:Below w.heap.size w W)=>sync_own W t (ht.next hW));have SZT:Hid ((Tryz.prog.info? 48).map (·.size)=some 13):=ι (by kernel_rfl);generalize Ac.trustB t.h t.nx t.ta=b at HX HTr;clear ht hT;go_enter Tryz.func12,Tryz.ntmps12
 go_upto_region 1 with fail
 have F0:=Live.ha (ι (Live.start w)) (η t.h [.slice t.kA t.h.sk.length t.kc,.slice t.nA t.nx.length t.nc,t.ta]) 48;generalize World.alloc w _=W0 at F0 ⊢;generalize w.heap.size=tb at F0 ⊢;have RG:W0.rangeAt tb 0 (η t.h [.slice t.kA t.h.sk.length t.kc,.slice t.nA t.nx.length t.nc,t.ta]):=range_of_blk (F0.out.blk 0 rfl);have HT1:=ι (HTr.out _ F0.out.b);go_wp2_with ((with_reducible refine at_load 7 ?_); refine wpList_load_mid rfl 48 _ rfl tb 0 rfl (η t.h [.slice t.kA t.h.sk.length t.kc,.slice t.nA t.nx.length t.nc,t.ta]) _ RG Tryz.underlying48 rfl SZT.out ?_)
 refine HT1.out.mono ?_;rintro e W1 ⟨rfl,hb⟩;have F1:=Live.hb F0 hb;clear hb RG HT1 HTr F0;cases b with
 |false=>
  have HE:Hid (X=3):=ι (HX.out.trans (if_pos rfl));clear HX;simp only [Bool.false_eq_true,if_false];go_wp2_with fail
  exact HPe.out 3 _ HE.out (by decide) F1.out.b
 |true=>
 simp only [if_true];have HX2:=ι (HX.out.trans (if_neg (by decide)));clear HX;have k0:=(F1.out.blk 0 rfl).d0;by_cases c1:goal≤t.h.hgt
 ·have c1':(goal≤t.h.hgt)=True:=by simp; omega
  have HE:Hid (X=1):=ι (HX2.out.trans (if_pos (.inl c1)));clear HX2 c1;go_wp2_with fail
  exact HPe.out 1 _ HE.out (by decide) F1.out.b
 have c1':(goal≤t.h.hgt)=False:=by simp; omega
 by_cases c2:1048576<goal
 ·have c2':(1048576<goal)=True:=by simp; omega
  have HE:Hid (X=1):=ι (HX2.out.trans (if_pos (.inr c2)));clear HX2 c1 c2;go_wp2_with fail
  exact HPe.out 1 _ HE.out (by decide) F1.out.b
 have c2':(1048576<goal)=False:=by simp; omega
 have HE:=ι (HX2.out.trans (if_neg (by omega)));clear HX2 c1 c2;have RG:W1.rangeAt tb 0 (η t.h [.slice t.kA t.h.sk.length t.kc,.slice t.nA t.nx.length t.nc,t.ta]):=range_of_blk (F1.out.blk 0 rfl);have HO1:=ι (HOw.out _ F1.out.b);go_wp2_with ((with_reducible refine at_load 21 ?_); refine wpList_load_mid rfl 48 _ rfl tb 0 rfl (η t.h [.slice t.kA t.h.sk.length t.kc,.slice t.nA t.nx.length t.nc,t.ta]) _ RG Tryz.underlying48 rfl SZT.out ?_)
 refine HO1.out.mono ?_;rintro e W2 ⟨kA,kc,nA,nc,rfl,hb,hok,_,_⟩;have F2:=Live.hb F1 hb;have HOk:=ι hok;clear hb hok RG k0 HO1 HOw F1;have F3:=Live.ha F2 (η t.h [.slice kA t.h.sk.length kc,.slice nA t.nx.length nc,t.ta,ν,goal,goal,ζ]) 112;have HY:Hid (SyAt (W2.alloc (.cells (η t.h [.slice kA t.h.sk.length kc,.slice nA t.nx.length nc,t.ta,ν,goal,goal,ζ]) 112)) W2.heap.size ⟨⟨t.h,kA,kc,t.nx,nA,nc,t.ta⟩,[],none,0,goal,goal,0⟩):=ι ⟨F3.out.blk 0 rfl,World.ownsRow_nil _ _ _ _,⟨HOk.out.next ((Below.refl _ W2).alloc (Nat.le_refl _) _),⟨fun a ha=>Nat.ne_of_lt (HOk.out.kb a ha),fun a ha=>Nat.ne_of_lt (HOk.out.nb a ha)⟩,fun k hk=>by cases hk⟩,fun t ht=>by cases ht⟩;have HS:=ι F2.out.b.size;go_wp2_with fail
 exact HPo.out _ kA kc nA nc _ HE.out F3.out.b HS.out HY.out
def TruEnd (w:World) (s:SyM) (e:Ending) (w':World):Prop:=
 ∃ (kA:Option Addr) (kc:Nat) (nA:Option Addr) (nc:Nat),e= .returned (.agg (η s.now.h [.slice kA s.now.h.sk.length kc,.slice nA s.now.nx.length nc,s.now.ta]))∧Below w.heap.size w w'∧TrOk w' ⟨s.now.h,kA,kc,s.now.nx,nA,nc,s.now.ta⟩
theorem sync_Trusted (w:World) (sb:Nat) (s:SyM) (h:SyAt w sb s):Calls Tryz.prog 21 #[.pointer (some ⟨sb,0,none⟩)] w (TruEnd w s):=by
 have HP:Hid (∀ kA kc nA nc w',Below w.heap.size w w'→TrOk w' ⟨s.now.h,kA,kc,s.now.nx,nA,nc,s.now.ta⟩→TruEnd w s (.returned (.agg (η s.now.h [.slice kA s.now.h.sk.length kc,.slice nA s.now.nx.length nc,s.now.ta]))) w'):=ι (fun kA kc nA nc w' h1 h2=>⟨kA,kc,nA,nc,rfl,h1,h2⟩);generalize TruEnd w s=P at HP ⊢;have HOw:=ι (fun W (hW:Below w.heap.size w W)=>sync_own W s.now (h.now.1.next hW).rd);have HS:=ι h;have SZT:Hid ((Tryz.prog.info? 48).map (·.size)=some 13):=ι (by kernel_rfl);clear h;go_enter Tryz.func21,Tryz.ntmps21
 go_upto_region 1 with fail
 have F0:=Live.ha (ι (Live.start w)) (θ [ν,ν,ζ]) 48;have HS0:=ι (HS.out.next F0.out.b);generalize World.alloc w _=W0 at F0 HS0 ⊢;generalize w.heap.size=rb at F0 ⊢;have RG:W0.rangeAt sb 0 (η s.now.h [.slice s.now.kA s.now.h.sk.length s.now.kc,.slice s.now.nA s.now.nx.length s.now.nc,s.now.ta]):=range_head HS0.out.blk rfl;have k0:W0.cell? ⟨sb,0,none⟩=some (.int .i64 s.now.h.hgt):=HS0.out.blk.cell 0;have HO1:=ι (HOw.out _ F0.out.b);go_wp2_with ((with_reducible refine at_load 6 ?_); refine wpList_load_mid rfl 48 _ rfl sb 0 rfl (η s.now.h [.slice s.now.kA s.now.h.sk.length s.now.kc,.slice s.now.nA s.now.nx.length s.now.nc,s.now.ta]) _ RG Tryz.underlying48 rfl SZT.out ?_)
 refine HO1.out.mono ?_;rintro e W2 ⟨kA,kc,nA,nc,rfl,hb,hok,hf1,hf2⟩;have F2:=Live.hb F0 hb;have HOk:=ι hok;have HFr:=ι (And.intro (fun a ha=>Nat.lt_of_lt_of_le (F0.out.lt 0 rfl) (hf1 a ha)) (fun a ha=>Nat.lt_of_lt_of_le (F0.out.lt 0 rfl) (hf2 a ha)));clear hb hok RG k0 HO1 HOw hf1 hf2;have TH:W2.there rb 0 13:=F2.out.there 0 13 rfl (by decide);have F9:Hid (Live w (W2.setCells rb 0 (η s.now.h [.slice kA s.now.h.sk.length kc,.slice nA s.now.nx.length nc,s.now.ta])) [(rb,48,(η s.now.h [.slice kA s.now.h.sk.length kc,.slice nA s.now.nx.length nc,s.now.ta]))]):=Live.hall F2 0 _ rfl rfl;have HG:W2.grownBy (W2.setCells rb 0 (η s.now.h [.slice kA s.now.h.sk.length kc,.slice nA s.now.nx.length nc,s.now.ta])) (some rb):=grown_setAll _ 0 _ (World.grownBy.refl _ _);have K9:=ι (HOk.out.far HG (fun k e=>by injection e with e; subst e; exact ⟨fun a ha h=>by have:=HFr.out.1 a ha; omega,fun a ha h=>by have:=HFr.out.2 a ha; omega⟩));have hr:=run_loadVar_mid (P:=Tryz.prog) (W2.setCells rb 0 (η s.now.h [.slice kA s.now.h.sk.length kc,.slice nA s.now.nx.length nc,s.now.ta])) rb 0 48 (η s.now.h [.slice kA s.now.h.sk.length kc,.slice nA s.now.nx.length nc,s.now.ta]) _ (range_of_blk (F9.out.blk 0 rfl)) Tryz.underlying48 rfl SZT.out;obtain ⟨W9,h9⟩:∃ W9,W2.setCells rb 0 ((η s.now.h [.slice kA s.now.h.sk.length kc,.slice nA s.now.nx.length nc,s.now.ta]):Array Value).toList=W9:=⟨_,rfl⟩
 have h9b:W2.setCells rb 0 [.int .i64 s.now.h.hgt,.int .i64 s.now.h.epo,.int .i64 s.now.h.vw,.bool s.now.h.last,.string ⟨s.now.h.par.toArray⟩,.string ⟨s.now.h.st.toArray⟩,.string ⟨s.now.h.rc.toArray⟩,.string ⟨s.now.h.tx.toArray⟩,.string ⟨s.now.h.mem.toArray⟩,.string ⟨s.now.h.nxt.toArray⟩,.slice kA s.now.h.sk.length kc,.slice nA s.now.nx.length nc,.int .i64 s.now.ta]=W9:=h9;rw [h9b] at F9 hr K9;have H9:=ι h9;clear h9b h9 HG;go_wp2_with ((with_reducible refine at_store 7 ?_); refine wpList_store_as rfl 48 _ _ rfl rb 0 (η s.now.h [.slice kA s.now.h.sk.length kc,.slice nA s.now.nx.length nc,s.now.ta]) rfl rfl TH SZT.out (by simp [Value.oneCell']) W9 H9.out ?_)
 (try simp only [Exit.inBlock,Exit.then])
 refine bodyPost_ret (v:= .agg (η s.now.h [.slice kA s.now.h.sk.length kc,.slice nA s.now.nx.length nc,s.now.ta])) (results_one_cell Tryz.results21 rfl hr) rfl ?_;exact HP.out kA kc nA nc W9 F9.out.b K9.out
def halfFar (far frm:Int):Int:=if far - frm<2 then far else frm+(far - frm) / 2
def HalveEnd (w:World) (sb:Nat) (far frm:Int) (e:Ending) (w':World):Prop:=(∃ b,e= .returned (.bool b))∧(w'=w∧halfFar far frm=far∨w'=w.setCell ⟨sb,15,none⟩ (.int .i64 (halfFar far frm)))
theorem sync_halve (w:World) (sb:Nat) (far frm:Int) (k15:w.cell? ⟨sb,15,none⟩=some (.int .i64 far)) (f15:w.frozen? ⟨sb,15,none⟩=false) (h0:0≤frm) (h1:frm≤1048576) (h2:0≤far) (h3:far≤1048576):Calls Tryz.prog 47 #[.pointer (some ⟨sb,14,none⟩),frm] w (HalveEnd w sb far frm):=by
 have HP:Hid (far - frm<2→HalveEnd w sb far frm (.returned (.bool false)) w):=ι (fun h=>⟨⟨_,rfl⟩,.inl ⟨rfl,if_pos h⟩⟩);have HQ:Hid (¬far - frm<2→HalveEnd w sb far frm (.returned (.bool true)) (w.setCell ⟨sb,15,none⟩ (.int .i64 (frm+(far - frm) / 2)))):=ι (fun h=>⟨⟨_,rfl⟩,.inr (by unfold halfFar; rw [if_neg h])⟩);generalize HalveEnd w sb far frm=P at HP HQ ⊢;have hw1:IntKind.i64.wrap (far - frm)=far - frm:=IntWalk.i64_in _ (by omega);by_cases c:far - frm<2
 ·have c':(far - frm<2)=True:=by simp; omega
  have HE:=ι (HP.out c);clear HP HQ c h0 h1 h2 h3;go_enter Tryz.func47,Tryz.ntmps47
  go_wp2_with fail
  exact HE.out
 ·have c':(far - frm<2)=False:=by simp; omega
  have HE:=ι (HQ.out c);have hq:(far - frm).tdiv 2=(far - frm) / 2:=Int.tdiv_eq_ediv_of_nonneg (by omega);have hw2:IntKind.i64.wrap ((far - frm) / 2)=(far - frm) / 2:=IntWalk.i64_in _ (by omega);have hw3:IntKind.i64.wrap (frm+(far - frm) / 2)=frm+(far - frm) / 2:=IntWalk.i64_in _ (by omega);clear HP HQ c h0 h1 h2 h3;go_enter Tryz.func47,Tryz.ntmps47
  go_wp2_with fail
  exact HE.out
end
end Go.Proofs.YtdkiloganbhfkaaGreatDoor