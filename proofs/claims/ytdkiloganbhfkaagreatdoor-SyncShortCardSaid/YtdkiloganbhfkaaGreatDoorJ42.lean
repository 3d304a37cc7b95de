import Derived.Test.YtdkiloganbhfkaaGreatDoorJ40
import Derived.Test.YtdkiloganbhfkaaGreatDoorJ41
set_option linter.unusedSimpArgs false
set_option linter.unusedVariables false
set_option maxHeartbeats 4000000
set_option maxRecDepth 100000
namespace Go.Proofs.YtdkiloganbhfkaaGreatDoor
section
open Go.RowKit Go.Instr
theorem reads_base {B0 W:World} {size n:Nat} {A:Option Addr} {xs:List Value} (h:Reads B0 B0.heap.size size A n xs) (hb:Below B0.heap.size B0 W):Reads W W.heap.size size A n xs:=(h.below hb).more hb.size
def ansOf (p:EnM) (hA:Option Addr) (hc:Nat) (sA:Option Addr) (sc:Nat) (nA:Option Addr) (nc:Nat) (gA:Option Addr) (gc:Nat):AnM:=⟨[(p.en.hd,p.kA,p.kc)],hA,hc,p.en.set,sA,sc,p.en.nxt,nA,nc,p.en.sum,p.en.set.map (·.1),gA,gc⟩
theorem mem_lens {l:List Pw.Mem} (h:Pw.okM l=true):∀ m∈l,m.1.length≤9223372036854775807:=fun m hm=>by have:=(Pw.okM_all h m hm).1; omega
theorem ans_at {B0 W1 W2:World} {p:EnM} {i:Nat} (hp:EnOk B0 p) (ho:Led.One p.en i) {hA sA nA gA:Option Addr} {hc sc nc gc:Nat} {sb n0:Nat} (hsb:B0.heap.size≤sb) (hlt:sb<n0)
  (hb:Below B0.heap.size B0 W1) (hg:W1.grownBy W2 (some sb))
  (r1:Reads W1 W1.heap.size 11 hA 1 (hcell (p.en.hd,p.kA,p.kc))) (r2:Reads W1 W1.heap.size 2 sA p.en.set.length (mcells p.en.set)) (r3:Reads W1 W1.heap.size 2 nA p.en.nxt.length (mcells p.en.nxt)) (r4:Reads W1 W1.heap.size 1 gA (p.en.set.map (·.1)).length (strv (p.en.set.map (·.1))))
  (f1:∀ a,hA=some a→n0≤a.block) (f2:∀ a,sA=some a→n0≤a.block) (f3:∀ a,nA=some a→n0≤a.block) (f4:∀ a,gA=some a→n0≤a.block):AnAt W2 (ansOf p hA hc sA sc nA nc gA gc):=by
 have off:∀ {B:Option Addr},(∀ a,B=some a→n0≤a.block)→∀ a,B=some a→some a.block≠some sb:=fun h a ha e=>by have:=h a ha; have:=Option.some.inj e; omega
 have hb2:Below B0.heap.size B0 W2:=hb.grown hg hb.size (fun k e=>by have:=Option.some.inj e; omega);refine {h:= ?_,ho:=fun y hy=> ?_,hl:=by simp [ansOf],s:=reads_off r2 hg (off f2),so:=mem_lens ho.set,n:=reads_off r3 hg (off f3),no:=mem_lens ho.nxt,d:=by have:=ho.sum_len; show p.en.sum.length≤_; omega,g:=reads_off r4 hg (off f4),go:=fun y hy=> ?_,gl:= ?_}
 ·have:=reads_off r1 hg (off f1)
  simpa [ansOf,hdcells] using this
 ·have e:y=(p.en.hd,p.kA,p.kc):=by simpa [ansOf] using hy
  subst e;exact ⟨okH_of ho.ok,reads_base hp.k hb2⟩
 ·obtain ⟨m,hm,rfl⟩:=List.mem_map.1 hy;exact mem_lens ho.set m hm
 ·show (p.en.set.map (·.1)).length≤_;rw [List.length_map]
  have:=(Pw.okM_len ho.set).2
  omega
structure RoundR (L:List En) (i j:Nat) (now:Int) (s:SyP) (cd:Nat) (s':SyP):Prop where
 code:cd=Ac.ownC L i j
 ok:cd=0→∃ hj:j<L.length,s'=⟨(L[j].hd,L[j].nxt,now),s.since++ [(L[j].hd,L[j].nxt,now)],s.goal,s.goal,s.rounds+1⟩
 half:cd=340→s'=⟨s.now,s.since,s.goal,halfFar s.far i,s.rounds+1⟩
theorem round_own {L:List En} (h:Led.Wf L) (h17:L.length≤17) (bad:List (List UInt8)) {i j:Nat} (hi:i<L.length) (hj:j<L.length) {ta now:Int} (h0:0≤ta) (h1:ta≤1099511627776) (h2:0≤now) (h3:now≤1099511627776)
  {p:EnM} (hp:p.en=L[j]) {hA sA nA gA:Option Addr} {hc sc nc gc:Nat} {s s':SyP} (hs:s.now=(L[i].hd,L[i].nxt,ta)) (hgo:(i:Int)<s.goal) (hfar:(j:Int)≤s.far) {cd:Nat} (hR:TakeR s (ansOf p hA hc sA sc nA nc gA gc) j now (Led.signW bad L) cd s'):RoundR L i j now s cd s':=by
 have oi:=h.one i hi;unfold TakeR at hR;rw [hs] at hR;simp only at hR;rw [if_neg (by rw [oi.hgt]; omega),if_neg (by omega)] at hR;obtain ⟨e,k0,k340,_⟩:=hR;have ea:Ac.accC L[i].hd L[i].nxt ta 0 j ((ansOf p hA hc sA sc nA nc gA gc).hs.map (·.1)) (ansOf p hA hc sA sc nA nc gA gc).set (ansOf p hA hc sA sc nA nc gA gc).nxt (ansOf p hA hc sA sc nA nc gA gc).d (ansOf p hA hc sA sc nA nc gA gc).sg now (Led.signW bad L)=Ac.ownC L i j:=by
  show Ac.accC L[i].hd L[i].nxt ta 0 j [p.en.hd] p.en.set p.en.nxt p.en.sum (p.en.set.map (·.1)) now (Led.signW bad L)=_;rw [hp];exact Ac.acc_own h h17 bad hi hj h0 h1 h2 h3
 rw [ea] at e;refine ⟨e,fun hc=> ?_,fun hc=> ?_⟩
 ·obtain ⟨y,hy,hs'⟩:=k0 hc;have ey:y=(p.en.hd,p.kA,p.kc):=by
   have: [(p.en.hd,p.kA,p.kc)]= [y]:=hy
   injection this with this
   exact this.symm
  refine ⟨hj,?_⟩;rw [hs',ey,←hp];rfl
 ·rw [k340 hc,oi.hgt,hs]
end
section
open Go.RowKit Go.Instr
attribute [local go_sem] ba_get ByteArray.mk_append_mk
attribute [local go_sem ↓] Go.wp_at_zero Go.wp_at_succ
theorem tr_field2 (v0 v1 v2 v3 v4 v5 v6 v7 v8 v9 v10 v11:Value) (a:Int) (w:World):(field 48 (.agg #[v0,v1,v2,v3,v4,v5,v6,v7,v8,v9,v10,v11,.int .i64 a]) 2).run Tryz.prog w= .ok (.int .i64 a) w:=by kernel_rfl
theorem tr_field0 (v0 v1 v2 v3 v4 v5 v6 v7 v8 v9 v10 v11:Value) (a:Int) (w:World):(field 48 (.agg #[v0,v1,v2,v3,v4,v5,v6,v7,v8,v9,v10,v11,.int .i64 a]) 0).run Tryz.prog w= .ok (.agg #[v0,v1,v2,v3,v4,v5,v6,v7,v8,v9,v10]) w:=by kernel_rfl
def wB:List BlkM:= [(1,[],none,0),(2,[],none,0),(3,[],none,0)]
theorem wB_at (w:World) (g t:Nat) (h:Blk w g t #[.int .i64 1,ν,.int .i64 2,ν,.int .i64 3,ν]):BlksAt w (some ⟨g,0,none⟩) wB:=
 ⟨reads_of_blk (n:=3) (size:=2) (xs:= [.int .i64 1,.slice none 0 0,.int .i64 2,.slice none 0 0,.int .i64 3,.slice none 0 0]) h rfl,fun b hb=>by
  simp only [wB,List.mem_cons,List.not_mem_nil,or_false] at hb;rcases hb with rfl|rfl|rfl<;>exact TxsAt.nil w,by decide⟩
theorem law35_works (w : World) (hT : Tbl w) : Calls Tryz.prog 7 #[] w (Ret w (.bool true)) := by
  have HP : Hid (∀ w', Below w.heap.size w w' → Ret w (.bool true) (.returned (.bool true)) w') := ι (fun w' h => ⟨rfl, h⟩)
  generalize Ret w (.bool true) = P at HP ⊢
  have HTb := ι hT
  clear hT
  go_enter Tryz.func7, Tryz.ntmps7
  go_wp2_with fail
  have F0 := Live.ha (Live.ha (Live.ha (ι (Live.start w)) #[.string ⟨#[97]⟩, .int .i64 9, ζ] 92) #[.string ⟨#[118]⟩, .int .i64 1] 94) #[.int .i64 1, ν, .int .i64 2, ν, .int .i64 3, ν] 96
  simp only [World.size_alloc] at F0
  generalize ((w.alloc (.cells #[.string ⟨#[97]⟩, .int .i64 9, ζ] 92)).alloc (.cells #[.string ⟨#[118]⟩, .int .i64 1] 94)).alloc (.cells #[.int .i64 1, ν, .int .i64 2, ν, .int .i64 3, ν] 96) = W0 at F0 ⊢
  refine (law35_made W0 Ex.wA (by decide) (some ⟨w.heap.size, 0, none⟩) 1 (reads_of_blk (n := 1) (size := 3) (xs := acells Ex.wA) (F0.out.blk 2 rfl) rfl) Ex.wM (by decide) (some ⟨w.heap.size + 1, 0, none⟩) 1 (reads_of_blk (n := 1) (size := 2) (xs := mcells Ex.wM) (F0.out.blk 1 rfl) rfl) wB (some ⟨w.heap.size + 1 + 1, 0, none⟩) 3 (wB_at W0 _ _ (F0.out.blk 0 rfl)) (.slice none 0 0)).mono ?_
  rintro e W1 ⟨M, MA, mc, rfl, hb, hM, hE, hcap⟩
  obtain ⟨e0, e1, e2, e3, hL, hWf, hepo⟩ := Ac.work_led
  rw [show wB.map BlkM.p = [(1, []), (2, []), (3, [])] from rfl, hL] at hM
  have hn : M.length = 4 := by have := congrArg List.length hM; simpa using this
  have HB1 := ι (F0.out.b.trans (hb.mono F0.out.b.size))
  have HWf : Hid (Led.Wf (M.map (·.en))) := ι (by rw [hM]; exact hWf)
  have HSg := ι (law35_signed W1 M HWf.out (by omega) MA mc hE [] (by simp) none 0 Reads.none_)
  have HOwn : Hid (Ac.ownC (M.map (·.en)) 0 3 = 0) := ι (by rw [hM]; exact Ac.work_own hepo)
  have HE := ι hE
  have HN := ι hn
  rw [hn] at HSg ⊢
  clear hM hL hWf hepo hb hE hcap F0
  simp only [List.length_nil] at HSg
  go_wp2_with fail
  refine (HSg.out _ _ _).mono ?_
  rintro e W2 ⟨mb, v, rfl, hTab, hmb, hb⟩
  have HB2 := ι (HB1.out.trans (hb.mono HB1.out.size))
  have HE2 := ι (HE.out.next hb)
  have HTab := ι hTab
  have HT2 := ι (HTb.out.next HB2.out)
  clear hb hTab hmb HSg HB1 HE HTb
  -- the first entry
  have hn4 := HN.out
  obtain ⟨p0, hp0⟩ : ∃ p, M[0]'(by omega) = p := ⟨_, rfl⟩
  obtain ⟨ad, off, hMA, hbl, hcell_⟩ := ent_cells HE2.out.r (show 0 < M.length by omega)
  rw [hp0] at hcell_
  subst hMA
  have HOk := ι (hp0 ▸ HE2.out.o _ (List.getElem_mem _))
  have HOne : Hid (Led.One p0.en 0) := ι (by have := HWf.out.one 0 (by rw [List.length_map]; omega); rw [List.getElem_map, hp0] at this; exact this)
  have HC0 : Hid (∀ W, Below W2.heap.size W2 W → W.rangeAt ad off (η p0.en.hd [.slice p0.kA p0.en.hd.sk.length p0.kc]) ∧ W.cell? ⟨ad, off + 16, none⟩ = some (.slice p0.nA p0.en.nxt.length p0.nc)) := ι (fun W hW => ⟨fun j u hu => by
    have := hcell_ W hW j u
    simp only [Nat.zero_mul, Nat.add_zero] at this
    refine this ?_
    have hj : j < 11 := (List.getElem?_eq_some_iff.1 hu).1
    rw [← hu]
    rcases j with _ | _ | _ | _ | _ | _ | _ | _ | _ | _ | _ | j <;> first | rfl | omega, by have := hcell_ W hW 16 _ rfl; simpa using this⟩)
  have HP0 := ι hp0
  have SZH : Hid ((Tryz.prog.info? 41).map (·.size) = some 11) := ι (by kernel_rfl)
  have HNw := ι (fun W (hW : Below W2.heap.size W2 W) => sync_New W ⟨p0.en.hd, p0.kA, p0.kc, p0.en.nxt, p0.nA, p0.nc, 0⟩ ⟨okH_of HOne.out.ok, reads_base HOk.out.k hW, reads_base HOk.out.nx hW, mem_lens HOne.out.nxt, by have := HOne.out.ok.sk_le; show p0.en.hd.sk.length ≤ _; omega, by have := (Pw.okM_len HOne.out.nxt).2; show p0.en.nxt.length ≤ _; omega⟩ 3 (HT2.out.next hW))
  have HNc : Hid (newC ⟨p0.en.hd, p0.kA, p0.kc, p0.en.nxt, p0.nA, p0.nc, 0⟩ 3 = 0) := ι (by
    have ht := Ac.trust_own HWf.out (i := 0) (by rw [List.length_map]; omega) (a := 0) (by omega) (by omega)
    rw [List.getElem_map, hp0] at ht
    unfold newC
    rw [if_neg (by rw [ht]; decide), if_neg (by have := HOne.out.hgt; simp only; omega)])
  have h40 : ((4 : Int) != 4) = false := rfl
  clear hcell_ hbl hp0 hn4
  go_upto_region 5 with fail
  have F2 := ι (Live.start W2)
  have F := live_drew F2
  refine wp_region_held_drew (S := fun w' => w'.rangeAt ad off (η p0.en.hd [.slice p0.kA p0.en.hd.sk.length p0.kc]) ∧ w'.cell? ⟨ad, off + 16, none⟩ = some (.slice p0.nA p0.en.nxt.length p0.nc)) (by kernel_rfl) ⟨(HC0.out _ F.out.b).1, (HC0.out _ F.out.b).2⟩ (fun hHeld => ?_)
  generalize W2.drew = Wd at F hHeld ⊢
  try go_frame
  refine tk 0 28 rfl ?_
  try go_frame
  refine tk 1 29 rfl ?_
  try go_frame
  refine tk 2 30 rfl ?_
  try go_frame
  refine' wpAnyH_take (i := 3) (oi := ⟨some 31, _, _, _, _, _⟩) (v := _) rfl (by kernel_rfl) (by kernel_rfl) (by kernel_rfl) (fun _ _ _ h => h) (yieldsIf_load_mid (by rfl) _ _ rfl ad off rfl (η p0.en.hd [.slice p0.kA p0.en.hd.sk.length p0.kc]) _ (fun w h => h.1) Tryz.underlying41 rfl SZH.out) (by assumption) ?_
  try go_frame
  refine tk 4 32 rfl ?_
  try go_frame
  refine tk 5 33 rfl ?_
  try go_frame
  refine tk 6 34 rfl ?_
  try go_frame
  refine tk 7 35 rfl ?_
  try go_frame
  refine tk 8 36 rfl ?_
  try go_frame
  refine rd1 9 rfl (fun K hK => ?_)
  go_simp
  refine (HNw.out _ F.out.b).mono ?_
  rintro e W3 ⟨hb, hcase⟩
  rcases hcase with ⟨h, _⟩ | ⟨_, sb, kA, kc, nA, nc, hsb, rfl, hS⟩
  · exact absurd HNc.out h
  have HSb : Hid (W2.heap.size ≤ sb) := ι (Nat.le_trans F.out.b.size hsb)
  have F3 := Live.hb F hb
  have HS3 := ι hS
  clear hb hS hsb
  go_simp
  refine hK.out _ _ ⟨(HC0.out _ F3.out.b).1, (HC0.out _ F3.out.b).2⟩ (fun hHeld => ?_)
  clear hK K
  try go_frame
  refine tk 10 27 rfl ?_
  try go_frame
  refine tk 11 38 rfl ?_
  try go_frame
  refine tk 12 39 rfl ?_
  try go_frame
  refine tk 13 3 rfl ?_
  try go_frame
  refine tk 14 4 rfl ?_
  try go_frame
  refine wpAnyH_done (by kernel_rfl) ?_ _
  clear hHeld HNw HNc F F2
  go_wp2_with fail
  refine (sync_Ask W3 sb _ HS3.out).mono ?_
  intro e W4 hA
  unfold AskEnd at hA
  have hg0 : p0.en.hd.hgt = 0 := HOne.out.hgt
  simp only [hg0] at hA
  rw [if_neg (by decide), decide_eq_false (by decide)] at hA
  obtain ⟨rfl, hb⟩ := hA
  have F4 := Live.hb F3 hb
  have HS4 := ι (HS3.out.next hb)
  clear hb F3 HS3
  have F4a := Live.ha F4 #[ζ, ζ, ζ, ε, ε, ζ] 50
  have TH : (W4.alloc (.cells #[ζ, ζ, ζ, ε, ε, ζ] 50)).there W4.heap.size 0 6 := F4a.out.there 0 6 rfl (by decide)
  have F5 : Hid (Live W2 ((W4.alloc (.cells #[ζ, ζ, ζ, ε, ε, ζ] 50)).setCells W4.heap.size 0 [.int .i64 2, ζ, .int .i64 3, ε, ε, ζ]) [(W4.heap.size, 50, #[.int .i64 2, ζ, .int .i64 3, ε, ε, ζ])]) := Live.hall F4a 0 _ rfl rfl
  have HS5 : Hid (SyAt ((W4.alloc (.cells #[ζ, ζ, ζ, ε, ε, ζ] 50)).setCells W4.heap.size 0 [.int .i64 2, ζ, .int .i64 3, ε, ε, ζ]) sb _) := ι (HS4.out.next (((Below.refl _ W4).alloc (Nat.le_refl _) _).grown (grown_setAll (g := W4.heap.size) [.int .i64 2, ζ, .int .i64 3, ε, ε, ζ] 0 _ (World.grownBy.refl _ _)) (by rw [World.size_alloc]; omega) (fun k e => Nat.le_of_eq (Option.some.inj e))))
  have SZQ : Hid ((Tryz.prog.info? 50).map (·.size) = some 6) := ι (by kernel_rfl)
  go_upto_region 9 with ((with_reducible refine at_store 49 ?_); refine wpList_store_mid rfl 50 _ _ rfl W4.heap.size 0 #[.int .i64 2, ζ, .int .i64 3, ε, ε, ζ] rfl rfl TH SZQ.out (by simp [Value.oneCell']) ?_)
  generalize World.setCells _ W4.heap.size 0 _ = W5 at F5 HS5 ⊢
  generalize W4.heap.size = qb at F5 ⊢
  clear TH F4a F4 HS4
  have RQ : W5.rangeAt qb 0 [.int .i64 2, ζ, .int .i64 3, ε, ε, ζ] := range_of_blk (F5.out.blk 0 rfl)
  have heq : (binOp .eql 50 (.agg #[.int .i64 2, ζ, .int .i64 3, ε, ε, ζ]) (.agg #[.int .i64 2, ζ, .int .i64 3, ε, ε, ζ])).run Tryz.prog W5 = .ok (.bool true) W5 := by kernel_rfl
  have hn4 := HN.out
  obtain ⟨p3, hp3⟩ : ∃ p, M[3]'(by omega) = p := ⟨_, rfl⟩
  have HO3 : Hid (Led.One p3.en 3) := ι (by have := HWf.out.one 3 (by rw [List.length_map]; omega); rw [List.getElem_map, hp3] at this; exact this)
  have HP3 := ι hp3
  have HOk3 := ι (hp3 ▸ HE2.out.o _ (List.getElem_mem (show 3 < M.length by omega)))
  have HAn := ι (law35_answer W5 M (some ⟨ad, off, none⟩) mc (HE2.out.next F5.out.b) (by omega) 3 (by omega) p3 hp3 (Pw.okM_len HO3.out.set).2 (Pw.okM_len HO3.out.nxt).2)
  rw [hn4] at HAn
  clear hn4 hp3 hg0
  go_wp2_with ((with_reducible refine at_load 53 ?_); refine wpList_load_want (by rfl) 50 _ rfl qb 0 rfl [.int .i64 2, ζ, .int .i64 3, ε, ε, ζ] _ RQ Tryz.underlying50 rfl SZQ.out ?_)
  refine HAn.out.mono ?_
  rintro e W6 ⟨hA, hc, sA, sc, nA3, nc3, gA, gc, rfl, hb, r1, r2, r3, r4, f1, f2, f3, f4⟩
  have F6 := Live.hb F5 hb
  have HS6 := ι (HS5.out.next hb)
  have hlt5 := HS5.out.blk.lt
  have HBg : Hid (∀ W, W6.grownBy W (some sb) → Below W2.heap.size W2 W) := ι (fun W hg => F6.out.b.grown hg F6.out.b.size (fun k e => by have := Option.some.inj e; have := HSb.out; omega))
  have HAt : Hid (∀ W, W6.grownBy W (some sb) → AnAt W (ansOf p3 hA hc sA sc nA3 nc3 gA gc)) := ι (fun W hg => ans_at HOk3.out HO3.out HSb.out hlt5 F6.out.b hg r1 r2 r3 r4 f1 f2 f3 f4)
  have HTk := ι (sync_Take W6 sb _ HS6.out (ansOf p3 hA hc sA sc nA3 nc3 gA gc) 3 5 mb v (Led.signW [] (M.map (·.en))) HAt.out (fun W hg => HTab.out.below (HBg.out W hg)) (fun W hg => HT2.out.next (HBg.out W hg)) (by have := (Pw.okM_len HO3.out.nxt).2; show p3.en.nxt.length ≤ _; omega) (fun y hy => by have e : y = (p3.en.hd, p3.kA, p3.kc) := (by simpa [ansOf] using hy); subst e; have := HO3.out.ok.sk_le; show p3.en.hd.sk.length ≤ _; omega) (by show (0 : Int) ≤ 0; decide) (by show (0 : Int) ≤ 1000000; decide) (by show (0 : Int) ≤ 3; decide) (by show (3 : Int) ≤ 1048576; decide) (by have := HOne.out.hgt; show 0 ≤ p0.en.hd.hgt; omega) (by have := HOne.out.hgt; show p0.en.hd.hgt ≤ _; omega) (by show ([] : List TrM).length ≤ _; decide))
  clear hb r1 r2 r3 r4 f1 f2 f3 f4 RQ heq HAn hlt5 F5 HS5 HAt
  have hs3 : p3.en.hd.hgt = 3 := HO3.out.hgt
  unfold ansOf at HTk
  simp only [List.length_cons, List.length_nil, Nat.zero_add, List.length_map] at HTk
  go_wp2_with fail
  refine HTk.out.mono ?_
  rintro e W7 ⟨cd, s', rfl, hb, hS', hR⟩
  have hn4 := HN.out
  have e3 : p3.en = (M.map (·.en))[3]'(by rw [List.length_map]; omega) := by rw [List.getElem_map, HP3.out]
  have e0 : (M.map (·.en))[0]'(by rw [List.length_map]; omega) = p0.en := by rw [List.getElem_map, HP0.out]
  have hRd := round_own HWf.out (by rw [List.length_map]; omega) [] (i := 0) (j := 3) (by rw [List.length_map]; omega) (by rw [List.length_map]; omega) (ta := 0) (now := 5) (by decide) (by decide) (by decide) (by decide) e3 (by rw [e0]; rfl) (by show (0 : Int) < 3; decide) (by show (3 : Int) ≤ 3; decide) hR
  have hcd : cd = 0 := hRd.code.trans HOwn.out
  obtain ⟨_, hp'⟩ := hRd.ok hcd
  rw [← e3] at hp'
  have G1 := ι (show s'.goal = 3 from congrArg SyP.goal hp')
  have G2 := ι (show s'.rounds = 1 from congrArg SyP.rounds hp')
  have G3 := ι (show s'.now.h = p3.en.hd from congrArg (fun p : SyP => p.now.1) hp')
  have G4 := ι (show s'.now.ta = 5 from congrArg (fun p : SyP => p.now.2.2) hp')
  have F7 : Hid (Live W2 W7 []) := ι ⟨F6.out.b.trans (hb.mono HSb.out), by simp, List.Pairwise.nil⟩
  have HS7 := ι hS'
  subst hcd
  clear hb hS' hR hRd hp' hn4 e3 e0 HTk F6 HS6 HBg
  go_wp2_with fail
  refine (sync_Done W7 sb s' HS7.out).mono ?_
  intro e W8 hA
  rw [G1.out, G3.out, hs3, decide_eq_true (by decide)] at hA
  obtain ⟨rfl, hb⟩ := hA
  have F8 := Live.hb F7 hb
  have HS8 := ι (HS7.out.next hb)
  clear hb F7 HS7
  go_wp2_with fail
  refine (sync_Rounds W8 sb s' HS8.out).mono ?_
  intro e W9 hA
  rw [G2.out] at hA
  obtain ⟨rfl, rfl⟩ := hA
  go_wp2_with fail
  refine (sync_Trusted W8 sb s' HS8.out).mono ?_
  rintro e W9 ⟨kA2, kc2, nA2, nc2, he, hb, _⟩
  rw [G4.out] at he
  subst he
  have F9 := Live.hb F8 hb
  clear hb F8 HS8
  have hfd := tr_field2 (.int .i64 s'.now.h.hgt) (.int .i64 s'.now.h.epo) (.int .i64 s'.now.h.vw) (.bool s'.now.h.last) (.string ⟨s'.now.h.par.toArray⟩) (.string ⟨s'.now.h.st.toArray⟩) (.string ⟨s'.now.h.rc.toArray⟩) (.string ⟨s'.now.h.tx.toArray⟩) (.string ⟨s'.now.h.mem.toArray⟩) (.string ⟨s'.now.h.nxt.toArray⟩) (.slice kA2 s'.now.h.sk.length kc2) (.slice nA2 s'.now.nx.length nc2) 5 W9
  go_wp2_with fail
  exact HP.out _ (HB2.out.trans (F9.out.b.mono HB2.out.size))
theorem tcell_len (t:TrM):(tcell t).length=13:=rfl
def SinceEnd (w:World) (n:Nat) (e:Ending) (w':World):Prop:=∃ (A:Option Addr) (c:Nat),e= .returned (.slice A n c)∧Below w.heap.size w w'
theorem sync_Since (w:World) (sb:Nat) (s:SyM) (h:SyAt w sb s) (hs:s.since.length≤1000000):Calls Tryz.prog 22 #[.pointer (some ⟨sb,0,none⟩)] w (SinceEnd w s.since.length):=by
 have HP:Hid (∀ A c w',Below w.heap.size w w'→SinceEnd w s.since.length (.returned (.slice A s.since.length c)) w'):=ι (fun A c w' h=>⟨A,c,rfl,h⟩);generalize SinceEnd w s.since.length=P at HP ⊢;have HR:=ι (Reads.of_own h.own);have HOk:=ι (fun t ht=>(h.all t ht).1);have k13:w.cell? ⟨sb,13,none⟩=some (.slice s.sA s.since.length s.sc):=h.blk.cell 13;have HN:=ι hs;have SZT:Hid ((Tryz.prog.info? 48).map (·.size)=some 13):=ι (by kernel_rfl);clear h hs;obtain ⟨L,hL⟩:∃ L,s.since=L:=⟨_,rfl⟩
 rw [hL] at HP HR HOk k13 HN;generalize s.sA=A at *;generalize s.sc=c at *;clear hL;go_enter Tryz.func22,Tryz.ntmps22
 go_wp2_with fail
 refine wp_loop_ghost_k (fun k a wr=>∀ Φ:Act→Prop,(∀ ⦃s1 s4 s5 s6 s7 s8 s0 s2 s3 s9 a0 a2 a3 a4 a5 a6:Value⦄ (i:Nat) (SA:Option Addr) (SC:Nat) (xs:List Value),(i+k=L.length∧wr.ownsRow w.heap.size 48 13 (.slice SA i SC) i xs∧Live w wr [])→Φ {tmps:=#[.pointer (some ⟨sb,0,none⟩),s1,.slice none 0 0,.slice SA i SC,s4,s5,s6,s7,s8,.slice A L.length c,.int .i64 (L.length:Int),.int .i64 (i:Int),s0,s2,s3,s9,a0,a2,a3,a4,a5,a6],defers:= []})→Φ a) (L.length) ?_ ?_
 ·refine fun Φ hΦ=>hΦ (0) (none) (0) ([]) ?_;exact ⟨by omega,World.ownsRow_nil _ _ _ _,Live.start w⟩
 ·intro k1 a1 wr1 hI1 J1 K1 hJ1 hK1;refine hI1 (fun a=>Code.wp _ _ _ a _) ?_;clear hI1 a1;iterate 16 (intro _)
  intro i SA SC xs hrel
  show Code.wp _ _ _ _ _;obtain ⟨h1,hO,hF⟩:=hrel;have F:=ι hF;by_cases hi:i<L.length
  ·obtain ⟨ad,off,hA',hbl,hcell_⟩:=flat_cells tcell_len (by decide) HR.out hi;subst hA';have RG0:wr1.rangeAt ad (off+i*13) (tcell L[i]):=fun q v hv=>hcell_ _ F.out.b q v hv;have hi1:(i:Int)<L.length:=by omega
   have hi0:(0:Int)≤i:=by omega
   have hwi:IntKind.i64.wrap ((i:Int)+1)=(i:Int)+1:=IntWalk.i64_in _ (by have:=HN.out; omega);have HI:=ι (And.intro h1 hi);have HT:=ι (HOk.out _ (List.getElem_mem hi));have HO:=ι hO;have HOw:=ι (fun W (hW:Below w.heap.size w W)=>sync_own W L[i] (HT.out.next hW).rd);clear h1 hF hcell_ hbl hO;generalize L[i]=t at *;clear hi;have HPL:Hid ((tcell t).toArray=#[.int .i64 t.h.hgt,.int .i64 t.h.epo,.int .i64 t.h.vw,.bool t.h.last,.string ⟨t.h.par.toArray⟩,.string ⟨t.h.st.toArray⟩,.string ⟨t.h.rc.toArray⟩,.string ⟨t.h.tx.toArray⟩,.string ⟨t.h.mem.toArray⟩,.string ⟨t.h.nxt.toArray⟩,.slice t.kA t.h.sk.length t.kc,.slice t.nA t.nx.length t.nc,.int .i64 t.ta]):=ι rfl;have HPO:Hid ((tcell t).toArray.all (·.oneCell')=true):=ι (all_oneCell_toArray (tcell_one t));have HPZ:Hid ((tcell t).toArray.size=13):=ι rfl;have SZL:(Tryz.prog.info? 48).map (·.size)=some (tcell t).length:=SZT.out;have SZP:(Tryz.prog.info? 48).map (·.size)=some (tcell t).toArray.size:=SZT.out;rw [←HPL.out] at HOw;have F0a:=Live.ha F (θ [ν,ν,ζ]) 48;have HO2:=ι (HO.out.alloc (.cells (θ [ν,ν,ζ]) 48));have TH0:(wr1.alloc (.cells (θ [ν,ν,ζ]) 48)).there wr1.heap.size 0 13:=F0a.out.there 0 13 rfl (by decide);have THP:(wr1.alloc (.cells (θ [ν,ν,ζ]) 48)).there wr1.heap.size 0 (tcell t).toArray.size:=by rw [HPZ.out]; exact TH0
   have ONP:=HPO.out;have HNO:Hid ((Value.slice SA i SC).ownBlock=none∨(Value.slice SA i SC).ownBlock≠some wr1.heap.size):=ι (.inr (fun e=>by have:=(HO.out.lt _ e).2; omega));generalize tcell t=pl at *;go_upto_region 5 with (first|((with_reducible refine at_load 14 ?_); refine wpList_load_mid rfl 48 _ rfl ad (off+i*13) rfl pl _ RG0 Tryz.underlying48 rfl SZL ?_)|((with_reducible refine at_store 14 ?_); refine wpList_store_mid rfl 48 _ _ rfl wr1.heap.size 0 pl.toArray rfl rfl THP SZP ONP ?_))
   have F8:Hid (Live w ((wr1.alloc (.cells (θ [ν,ν,ζ]) 48)).setCells wr1.heap.size 0 pl.toArray.toList) [(wr1.heap.size,48,pl.toArray.toList.toArray)]):=Live.hall F0a 0 _ rfl (by have:=HPZ.out; simpa using this.symm);have HO3:=ι (HO2.out.kept (grown_setAll (g:=wr1.heap.size) pl.toArray.toList 0 _ (World.grownBy.refl _ (some wr1.heap.size))) HNO.out);simp only at F8 HO3 ⊢;generalize World.setCells _ wr1.heap.size 0 pl=W1 at F8 HO3 ⊢;generalize wr1.heap.size=fb at F8 ⊢;have RG2:W1.rangeAt fb 0 pl:=range_of_blk (F8.out.blk 0 rfl);clear TH0 THP SZP ONP RG0 F0a F HO HO2 HNO;have HC1:=ι (HOw.out _ F8.out.b);go_wp2_with (((with_reducible refine at_load 16 ?_); refine wpList_load_mid rfl 48 _ rfl fb 0 rfl pl _ RG2 Tryz.underlying48 rfl SZL ?_))
   refine HC1.out.mono ?_;rintro e W2 ⟨kA,kc,nA,nc,rfl,hb,_,_,_⟩;have F9:=Live.hb F8 hb;have HO4:=ι (own_below HO3.out hb);clear hb HC1 HOw RG2 SZL F8 HO3;have hil:i<1000000:=by have:=HI.out; have:=HN.out; omega
   go_wp2_with (at_builtin; refine wpList_append_new W2 48 (η t.h [.slice kA t.h.sk.length kc,.slice nA t.nx.length nc,t.ta]) rfl _ _ 66 rfl w.heap.size 13 184 _ info_tr Tryz.underlying66 rfl (by decide) (.slice SA i SC) i xs rfl HO4.out 1 1 rfl rfl (by intro u hu; simp only [List.mem_cons,List.not_mem_nil,or_false] at hu; rcases hu with rfl|rfl|rfl|rfl|rfl|rfl|rfl|rfl|rfl|rfl|rfl|rfl|rfl<;>rfl) (by simp only [maxLen]; omega) (by omega) w.heap.size w F9.out.b (Nat.le_refl _) F9.out.b.size ?_; intro v5 w5 own5 hb5 hg5 _ _; obtain ⟨A5,c5,rfl,_,_,_⟩:=own_form own5; have O5:=ι (And.intro own5 hb5); clear own5 hb5 hg5)
   refine Handed.intro (L.length - (i+1)) ?_ (hJ1 _ _ _ (fun Φ hΦ=>hΦ (i+1) (A5) (c5) ((xs++ [.int .i64 t.h.hgt,.int .i64 t.h.epo,.int .i64 t.h.vw,.bool t.h.last,.string ⟨t.h.par.toArray⟩,.string ⟨t.h.st.toArray⟩,.string ⟨t.h.rc.toArray⟩,.string ⟨t.h.tx.toArray⟩,.string ⟨t.h.mem.toArray⟩,.string ⟨t.h.nxt.toArray⟩,.slice kA t.h.sk.length kc,.slice nA t.nx.length nc,.int .i64 t.ta])) ?_))
   ·have:=HI.out; omega
   ·exact ⟨by have:=HI.out; omega,O5.out.1,O5.out.2,by simp,List.Pairwise.nil⟩
  ·have hi1:((i:Int)<L.length)=False:=by simp; omega
   obtain rfl:i=L.length:=by omega
   clear h1 hO hF hi;go_wp2_with fail
   exact HP.out SA SC _ F.out.b
theorem zb_21 {P:Prop} (h:P:=by
 have F:=live_drew F;generalize wr1.drew=Wd at F hHeld ⊢;refine tk 0 10 rfl ?_;try go_frame
 refine tk 1 11 rfl ?_;try go_frame
 refine tk 2 12 rfl ?_;try go_frame
 refine tk 3 13 rfl ?_;try go_frame
 refine tk 4 14 rfl ?_;try go_frame
 refine tk 5 15 rfl ?_;try go_frame
 refine tk 6 16 rfl ?_;try go_frame
 refine tk 7 17 rfl ?_;try go_frame
 refine tk 8 18 rfl ?_;try go_frame
 refine tk 9 19 rfl ?_;try go_frame
 refine tk 10 20 rfl ?_;try go_frame
 refine tk 11 21 rfl ?_;try go_frame
 refine tk 12 22 rfl ?_;try go_frame
 refine tk 13 23 rfl ?_;try go_frame
 refine tk 14 24 rfl ?_;try go_frame
 refine tk 15 25 rfl ?_;try go_frame
 refine tk 16 26 rfl ?_;try go_frame
 refine tk 17 27 rfl ?_;try go_frame
 refine tk 18 28 rfl ?_;try go_frame
 refine tk 19 29 rfl ?_;try go_frame
 refine tk 20 30 rfl ?_;try go_frame
 refine tk 21 31 rfl ?_;try go_frame
 refine tk 22 32 rfl ?_;try go_frame
 refine tk 23 33 rfl ?_;try go_frame
 refine tk 24 34 rfl ?_;try go_frame
 refine tk 25 35 rfl ?_;try go_frame
 refine wpAnyH_done (by kernel_rfl) ?_ _;go_wp2_with fail
 exact HP.out _ F.out.b):P:=h
theorem law35_best (w:World) (l:List EnM) (A:Option Addr) (c:Nat) (HL:EntsAt w A l) (hl:l.length≤1048577) (frm:Int) (n0:Nat) (hf:frm+1=(n0:Int)) (ha:n0≤1048577) (hi:Int):
  Calls Tryz.prog 16 #[.slice A l.length c,frm,hi] w (Ret w (.int .i64 (Led.bestN l hi l.length n0:Int))):=by
 have HP:Hid (∀ w',Below w.heap.size w w'→Ret w (.int .i64 (Led.bestN l hi l.length n0:Int)) (.returned (.int .i64 (Led.bestN l hi l.length n0:Int))) w'):=ι (fun w' h=>⟨rfl,h⟩);generalize hR:Led.bestN l hi l.length n0=R at *;have HR:=ι hR;generalize Ret w (.int .i64 (R:Int))=P at HP ⊢;have HLL:=ι HL;have HN:=ι (And.intro hl ha);have hw1:IntKind.i64.wrap (frm+1)=(n0:Int):=by rw [hf]; exact IntWalk.i64_in _ (by omega)
 clear hR HL hl ha hf;go_enter Tryz.func16,Tryz.ntmps16
 go_wp2_with fail
 refine wp_loop_ghost_k (fun k a wr=>∀ Φ:Act→Prop,(∀ ⦃s3 s4 s5 s8 s9 s0 s1 s2 s6 s7 a0 a2 a3 a4 a5 a6 a7 a8 a9 b0 b1 b2 b3 b4 b5 b6 b7 b8 b9 c0 c4 c5 c6 c7:Value⦄ (b:Nat),(Led.bestN l hi k b=R∧l.length≤b+k∧b≤2097154∧Live w wr [])→Φ {tmps:=#[.slice A l.length c,.int .i64 frm,.int .i64 hi,s3,s4,s5,.int .i64 0,.int .i64 (b:Int),s8,s9,s0,s1,s2,s6,s7,a0,a2,a3,a4,a5,a6,a7,a8,a9,b0,b1,b2,b3,b4,b5,b6,b7,b8,b9,c0,c4,c5,c6,c7],defers:= []})→Φ a) (l.length) ?_ ?_
 ·refine fun Φ hΦ=>hΦ (n0) ?_;exact ⟨HR.out,by omega,by have:=HN.out; omega,Live.start w⟩
 ·intro k1 a1 wr1 hI1 J1 K1 hJ1 hK1;refine hI1 (fun a=>Code.wp _ _ _ a _) ?_;clear hI1 a1;iterate 34 (intro _)
  intro b hrel
  show Code.wp _ _ _ _ _;obtain ⟨h1,h2,h3,hF⟩:=hrel;have F:=ι hF;have hwb:IntKind.i64.wrap ((b:Int)+1)=(b:Int)+1:=IntWalk.i64_in _ (by omega);clear hw1 hF;by_cases c1:(b:Int)<hi;rotate_left
  ·have c1':((b:Int)<hi)=False:=by simp; omega
   have e:R=b:=by rw [←h1]; cases k1<;>simp [Led.bestN,c1]
   subst e;clear h1 h2 c1;go_upto_region 2 with fail
   refine wp_region_held_drew (S:=fun w'=>True) (by kernel_rfl) trivial (fun hHeld=> ?_);exact zb_21
  have c1':((b:Int)<hi)=True:=by simp; omega
  by_cases c2:b+1<l.length;rotate_left
  ·have c2':((b:Int)+1<l.length)=False:=by simp; omega
   have e:R=b:=by rw [←h1]; cases k1<;>simp [Led.bestN,c2]
   subst e;clear h1 h2 c1 c2;go_upto_region 2 with fail
   refine wp_region_held_drew (S:=fun w'=>True) (by kernel_rfl) trivial (fun hHeld=> ?_);exact zb_21
  have c2':((b:Int)+1<l.length)=True:=by simp; omega
  obtain ⟨ad,off,hA,hbl,hcell⟩:=ent_cells HLL.out.r c2;obtain ⟨ad',off',hA',_,hcell'⟩:=ent_cells HLL.out.r (show b<l.length by omega);subst hA;injection hA' with hA'
  injection hA' with e1 e2 _
  subst e1;subst e2;have r1:=hcell _ F.out.b 1 _ rfl;have r0:=hcell' _ F.out.b 1 _ rfl;have hx1:(b:Int)+1<l.length:=by omega
  have hx0:(b:Int)<l.length:=by omega
  have hp1:(0:Int)≤(b:Int)+1:=by omega
  have hp0:(0:Int)≤(b:Int):=by omega
  have hgo:Led.bestN l hi k1 b=if l[b+1].en.hd.epo=(l[b]'(by omega)).en.hd.epo then Led.bestN l hi (k1 - 1) (b+1) else b:=by
   cases k1 with
   |zero=>omega
   |succ k=>
    rw [Led.bestN,List.getElem?_eq_getElem c2,List.getElem?_eq_getElem (by omega)];simp [c1,c2]
  rw [hgo] at h1;clear hcell hcell' hbl hgo;generalize l[b+1].en.hd.epo=p1 at *;generalize (l[b]'(by omega)).en.hd.epo=p0 at *;by_cases c3:p1=p0
  ·have c3':(p1==p0)=true:=by simp [c3]
   rw [if_pos c3] at h1;clear c1 c2 c3;go_upto_region 2 with fail
   refine wp_region_held_drew (S:=fun w'=>w'.cell? ⟨ad,off+(b+1)*17+1,none⟩=some (.int .i64 p1)∧w'.cell? ⟨ad,off+b*17+1,none⟩=some (.int .i64 p0)) (by kernel_rfl) ⟨r1,r0⟩ (fun hHeld=> ?_);have F:=live_drew F;generalize wr1.drew=Wd at F hHeld ⊢;refine tk 0 10 rfl ?_;try go_frame
   refine tk 1 11 rfl ?_;try go_frame
   refine tk 2 12 rfl ?_;try go_frame
   refine tk 3 13 rfl ?_;try go_frame
   refine tk 4 14 rfl ?_;try go_frame
   refine tk 5 15 rfl ?_;try go_frame
   refine tk 6 16 rfl ?_;try go_frame
   refine tk 7 17 rfl ?_;try go_frame
   refine tk 8 18 rfl ?_;try go_frame
   refine tk 9 19 rfl ?_;try go_frame
   refine tk 10 20 rfl ?_;try go_frame
   refine tk 11 21 rfl ?_;try go_frame
   refine tk 12 22 rfl ?_;try go_frame
   refine tk 13 23 rfl ?_;try go_frame
   refine tk 14 24 rfl ?_;try go_frame
   refine tk 15 25 rfl ?_;try go_frame
   refine tk 16 26 rfl ?_;try go_frame
   refine tk 17 27 rfl ?_;try go_frame
   refine tk 18 28 rfl ?_;try go_frame
   refine tk 19 29 rfl ?_;try go_frame
   refine tk 20 30 rfl ?_;try go_frame
   refine tk 21 31 rfl ?_;try go_frame
   refine tk 22 32 rfl ?_;try go_frame
   refine tk 23 33 rfl ?_;try go_frame
   refine tk 24 34 rfl ?_;try go_frame
   refine tk 25 35 rfl ?_;try go_frame
   refine wpAnyH_done (by kernel_rfl) ?_ _;go_wp2_with fail
   refine Handed.intro (k1 - 1) ?_ (hJ1 _ _ _ (fun Φ hΦ=>hΦ (b+1) ?_))
   ·omega
   ·exact ⟨h1,by omega,by have:=HN.out; omega,F.out⟩
  ·have c3':(p1==p0)=false:=by simp [c3]
   rw [if_neg c3] at h1;subst h1;clear c1 c2 c3 h2;go_upto_region 2 with fail
   refine wp_region_held_drew (S:=fun w'=>w'.cell? ⟨ad,off+(b+1)*17+1,none⟩=some (.int .i64 p1)∧w'.cell? ⟨ad,off+b*17+1,none⟩=some (.int .i64 p0)) (by kernel_rfl) ⟨r1,r0⟩ (fun hHeld=> ?_);exact zb_21
theorem Led.madeW_wf (l:List Ex.Ac) (set:List Pw.Mem) (bs:List (Int × List Ex.Tx)) (h:Led.madeW l set bs≠ []):Led.Wf (Led.madeW l set bs)∧(Led.madeW l set bs).length≤bs.length+1:=by
 unfold Led.madeW at h ⊢;by_cases hc:(Ex.genW l set).2=0
 ·rw [if_pos hc];have hg:=Ex.genW_good l set;have hlen:=Led.growW_len bs [Led.newE (Ex.genW l set).1 set];refine ⟨Led.growW_wf _ _ (Led.newE_wf hg.1 (by omega) (genW_ok hc)),?_⟩;rw [List.length_singleton] at hlen;omega
 ·rw [if_neg hc] at h;exact absurd rfl h
theorem law_SyncShort (w:World) (hT:Tbl w) (l:List Ex.Ac) (hs:∀ x∈l,x.1.length≤9223372036854775807) (hl:l.length≤9223372036854775807) (A:Option Addr) (c:Nat) (HR:Reads w w.heap.size 3 A l.length (acells l)) (set:List Pw.Mem) (hm:∀ x∈set,x.1.length≤9223372036854775807) (B:Option Addr) (d:Nat) (HS:Reads w w.heap.size 2 B set.length (mcells set))
  (bl:List BlkM) (C:Option Addr) (ce:Nat) (HB:BlksAt w C bl) (bad:List (List UInt8)) (hbad:bad.length≤9223372036854775807) (bA:Option Addr) (bc:Nat) (HD:Reads w w.heap.size 1 bA bad.length (strv bad)) (e0 e1:Int):
  Calls Tryz.prog 3 #[.agg #[.slice A l.length c,.slice B set.length d,.slice C bl.length ce,.slice bA bad.length bc],.agg #[e0,e1]] w (Ret w (.bool true)):=by
 have HP:Hid (∀ w',Below w.heap.size w w'→Ret w (.bool true) (.returned (.bool true)) w'):=ι (fun w' h=>⟨rfl,h⟩);generalize Ret w (.bool true)=P at HP ⊢;have HTb:=ι hT;have HMd:=ι (fun W (hW:Below w.heap.size w W) bd=>law35_made W l hs A c (reads_base HR hW) set hm B d (reads_base HS hW) bl C ce (HB.next hW) bd);have HBg:=ι (fun W (hW:Below w.heap.size w W)=>law35_big W l hs hl A c (reads_base HR hW) set B d bl C ce (HB.next hW) bad bA bc (reads_base HD hW) 0 none 0);have HSd:=ι (fun W (hW:Below w.heap.size w W) (M:List EnM) hWf h17 MA mc hE x0 x1 x2=>law35_signed W M hWf h17 MA mc hE bad hbad bA bc (reads_base HD hW) x0 x1 x2);clear hT hs hl HR hm HS HB hbad HD;go_enter Tryz.func3,Tryz.ntmps3
 go_upto_region 1 with fail
 have F0:=Live.ha (Live.ha (ι (Live.start w)) #[.slice A l.length c,.slice B set.length d,.slice C bl.length ce,.slice bA bad.length bc] 27) #[e0,e1] 28;simp only [World.size_alloc] at F0;generalize (w.alloc (.cells #[.slice A l.length c,.slice B set.length d,.slice C bl.length ce,.slice bA bad.length bc] 27)).alloc (.cells #[e0,e1] 28)=W0 at F0 ⊢;generalize heb:w.heap.size+1=eb at F0 ⊢;clear heb;generalize hxb:w.heap.size=xb at F0 ⊢;clear hxb;have HW:=ι (law35_works W0 (HTb.out.next F0.out.b));go_wp2_with fail
 refine HW.out.mono ?_;rintro e W1 ⟨rfl,hb⟩;have F1:=Live.hb F0 hb;clear hb HW F0;have k1:=(F1.out.blk 1 rfl).c4;have HM1:=ι (fun bd=>HMd.out _ F1.out.b bd);go_wp2_with fail
 refine (HM1.out _).mono ?_;rintro e W2 ⟨M,MA,mc,rfl,hb,hM,hE,_⟩;have F2:=Live.hb F1 hb;have HE:=ι hE;have HMm:=ι hM;clear hb hE hM HM1 HMd F1 k1;have k1:=(F2.out.blk 1 rfl).c4;have HB1:=ι (HBg.out _ F2.out.b);go_wp2_with fail
 refine HB1.out.mono ?_;rintro e W3 ⟨b,rfl,hb,hbf⟩;have F3:=Live.hb F2 hb;have HE3:=ι (HE.out.next hb);have HBf:=ι hbf;clear hb hbf HB1 HBg F2 HE k1;cases b with
 |true=>
  go_wp2_with fail
  exact HP.out _ F3.out.b
 |false=>
 by_cases hlen:M.length<2
 ·have hlen':((M.length:Int)<2)=True:=by simp; omega
  clear hlen;go_wp2_with fail
  exact HP.out _ F3.out.b
 have hlen':((M.length:Int)<2)=False:=by simp; omega
 obtain ⟨n1,hn1⟩:∃ n1,M.length=n1+1:=⟨M.length - 1,by omega⟩
 have hml:(M.map (·.en)).length=n1+1:=by rw [List.length_map,hn1]
 obtain ⟨hWf,h17⟩:=Led.madeW_wf l set (bl.map BlkM.p) (by intro e; rw [HMm.out,e] at hml; simp at hml);rw [←HMm.out,hml] at h17;rw [←HMm.out] at hWf;rw [List.length_map] at h17;have hbl16:=(HBf.out rfl).1.2.2.1;have HN:=ι (show M.length=n1+1∧1≤n1∧n1≤16 from ⟨hn1,by omega,by omega⟩);have HWf:=ι hWf;clear hml hWf h17 hbl16 HBf HMm hn1 hlen;have hwA:IntKind.i64.wrap ((M.length:Int) - 1)=((n1:Nat):Int):=by rw [show (M.length:Int) - 1=((n1:Nat):Int) from by have:=HN.out.1; omega]; exact IntWalk.i64_in _ (by have:=HN.out; omega)
 have q0:=(F3.out.blk 0 rfl).d0;have HBe:=ι (book_Below16 e0 n1 W3 HN.out.2.1 (by have:=HN.out; omega));go_wp2_with fail
 refine HBe.out.mono ?_;rintro e W3' ⟨i,hi,rfl,rfl⟩;obtain ⟨n2,hn2⟩:∃ n2,n1=i+n2:=⟨n1 - i,by omega⟩
 have hwB:IntKind.i64.wrap (((n1:Nat):Int) - (i:Int))=((n2:Nat):Int):=by rw [show ((n1:Nat):Int) - (i:Int)=((n2:Nat):Int) from by omega]; exact IntWalk.i64_in _ (by have:=HN.out; omega)
 have hwC:IntKind.i64.wrap ((i:Int)+1)=(i:Int)+1:=IntWalk.i64_in _ (by have:=HN.out; omega);have HI:=ι (And.intro hi hn2);clear hi hn2 HBe q0 hlen';have q1:=(F3.out.blk 0 rfl).d1;have HBe:=ι (book_Below16 e1 n2 W3 (by have:=HI.out; omega) (by have:=HN.out; have:=HI.out; omega));go_wp2_with fail
 refine HBe.out.mono ?_;rintro e W3' ⟨k2,hk2,rfl,rfl⟩;obtain ⟨g,hg⟩:∃ g,g=i+1+k2:=⟨_,rfl⟩
 have hwD:IntKind.i64.wrap ((i:Int)+1+(k2:Int))=((g:Nat):Int):=by rw [show (i:Int)+1+(k2:Int)=((g:Nat):Int) from by omega]; exact IntWalk.i64_in _ (by have:=HN.out; have:=HI.out; omega)
 have HG:=ι (show i<g∧g<M.length from ⟨by omega,by have:=HN.out; have:=HI.out; omega⟩);clear hk2 hg HBe q1;have k1:=(F3.out.blk 1 rfl).c4;have HS1:=ι (HSd.out _ F3.out.b M HWf.out (by have:=HN.out; omega) MA mc HE3.out);go_wp2_with fail
 refine (HS1.out _ _ _).mono ?_;rintro e W4 ⟨mb,v,rfl,hTab,_,hb⟩;have F4:=Live.hb F3 hb;have HE4:=ι (HE3.out.next hb);have HTab:=ι hTab;have HT4:=ι (HTb.out.next F4.out.b);have HB4:=ι F4.out.b;clear hb hTab HS1 HSd F3 HE3 HTb k1 hwA hwB hwC hwD;have hgl:=HG.out;obtain ⟨p,hp⟩:∃ p,M[i]'(by omega)=p:=⟨_,rfl⟩
 obtain ⟨ad,off,hMA,hbl,hcell_⟩:=ent_cells HE4.out.r (show i<M.length by omega);rw [hp] at hcell_;subst hMA;have HOk:=ι (hp ▸ HE4.out.o _ (List.getElem_mem (show i<M.length by omega)));have HOne:Hid (Led.One p.en i):=ι (by have:=HWf.out.one i (by rw [List.length_map]; omega); rw [List.getElem_map,hp] at this; exact this);have HC0:Hid (∀ W,Below W4.heap.size W4 W→W.rangeAt ad (off+i*17) (η p.en.hd [.slice p.kA p.en.hd.sk.length p.kc])∧W.cell? ⟨ad,off+i*17+16,none⟩=some (.slice p.nA p.en.nxt.length p.nc)):=ι (fun W hW=>⟨fun j u hu=>by
  refine hcell_ W hW j u ?_;have hj:j<11:=(List.getElem?_eq_some_iff.1 hu).1;rw [←hu];rcases j with _|_|_|_|_|_|_|_|_|_|_|j<;>first|rfl|omega,hcell_ W hW 16 _ rfl⟩)
 have HP0:=ι hp;have SZH:Hid ((Tryz.prog.info? 41).map (·.size)=some 11):=ι (by kernel_rfl);have HNw:=ι (fun W (hW:Below W4.heap.size W4 W)=>sync_New W ⟨p.en.hd,p.kA,p.kc,p.en.nxt,p.nA,p.nc,0⟩ ⟨okH_of HOne.out.ok,reads_base HOk.out.k hW,reads_base HOk.out.nx hW,mem_lens HOne.out.nxt,by have:=HOne.out.ok.sk_le; show p.en.hd.sk.length≤_; omega,by have:=(Pw.okM_len HOne.out.nxt).2; show p.en.nxt.length≤_; omega⟩ (g:Int) (HT4.out.next hW));have HNc:Hid (newC ⟨p.en.hd,p.kA,p.kc,p.en.nxt,p.nA,p.nc,0⟩ (g:Int)=0):=ι (by
  have ht:=Ac.trust_own HWf.out (i:=i) (by rw [List.length_map]; omega) (a:=0) (by omega) (by omega);rw [List.getElem_map,hp] at ht;unfold newC;rw [if_neg (by rw [ht]; decide),if_neg (by have:=HOne.out.hgt; have:=HN.out; simp only; omega)])
 have hi1:(i:Int)<M.length:=by omega
 have hi0:(0:Int)≤i:=by omega
 clear hcell_ hbl hp;go_upto_region 9 with fail
 have F:=live_drew (ι (Live.start W4));refine wp_region_held_drew (S:=fun w'=>w'.rangeAt ad (off+i*17) (η p.en.hd [.slice p.kA p.en.hd.sk.length p.kc])∧w'.cell? ⟨ad,off+i*17+16,none⟩=some (.slice p.nA p.en.nxt.length p.nc)) (by kernel_rfl) (HC0.out _ F.out.b) (fun hHeld=> ?_);generalize W4.drew=Wd at F hHeld ⊢;try go_frame
 refine tk 0 45 rfl ?_;try go_frame
 refine tk 1 46 rfl ?_;try go_frame
 refine tk 2 47 rfl ?_;try go_frame
 refine tk 3 48 rfl ?_;try go_frame
 refine' wpAnyH_take (i:=4) (oi:=⟨some 49,_,_,_,_,_⟩) (v:=_) rfl (by kernel_rfl) (by kernel_rfl) (by kernel_rfl) (fun _ _ _ h=>h) (yieldsIf_load_mid (by rfl) _ _ rfl ad (off+i*17) rfl (η p.en.hd [.slice p.kA p.en.hd.sk.length p.kc]) _ (fun w h=>h.1) Tryz.underlying41 rfl SZH.out) (by assumption) ?_
 try go_frame
 refine tk 5 50 rfl ?_;try go_frame
 refine tk 6 51 rfl ?_;try go_frame
 refine tk 7 52 rfl ?_;try go_frame
 refine tk 8 53 rfl ?_;try go_frame
 refine tk 9 54 rfl ?_;try go_frame
 refine tk 10 55 rfl ?_;try go_frame
 refine tk 11 56 rfl ?_;try go_frame
 refine rd1 12 rfl (fun K hK=> ?_);go_simp
 refine (HNw.out _ F.out.b).mono ?_;rintro e W5 ⟨hb,hcase⟩;rcases hcase with ⟨h,_⟩|⟨_,sb,kA,kc,nA,nc,hsb,rfl,hS⟩
 ·exact absurd HNc.out h
 have HSb:Hid (W4.heap.size≤sb):=ι (Nat.le_trans F.out.b.size hsb);have F5:=Live.hb F hb;have HS5:=ι hS;clear hb hS hsb;go_simp
 refine hK.out _ _ (HC0.out _ F5.out.b) (fun hHeld=> ?_);clear hK K;try go_frame
 refine tk 13 44 rfl ?_;try go_frame
 refine tk 14 58 rfl ?_;try go_frame
 refine tk 15 59 rfl ?_;try go_frame
 refine tk 16 9 rfl ?_;try go_frame
 refine tk 17 10 rfl ?_;try go_frame
 refine wpAnyH_done (by kernel_rfl) ?_ _;clear hHeld HNw HNc F hi1 hi0 HC0 F4;have HIw:=ι (show i<g∧g<(List.map (fun x:EnM=>x.en) M).length from ⟨HG.out.1,by rw [List.length_map]; exact HG.out.2⟩);obtain ⟨N0,hN0⟩:∃ N0,Ac.needS (List.map (fun x:EnM=>x.en) M) g i=N0:=⟨_,rfl⟩
 have HN0:=ι (And.intro hN0 (hN0 ▸ Ac.need_pos HWf.out HIw.out.1 HIw.out.2));have SZQ:Hid ((Tryz.prog.info? 50).map (·.size)=some 6):=ι (by kernel_rfl);have HEp:Hid ((List.map (fun x:EnM=>x.en) M)[i]'(by rw [List.length_map]; omega)=p.en):=ι (by rw [List.getElem_map,HP0.out]);clear hN0;go_wp2_with fail
 refine wp_loop_ghost_k (fun k a wr=>∀ Φ:Act→Prop,(∀ ⦃s0 s1 s2 s3 s4 s5 s6 s7 s8 s9 a0 a2 a3 a4 a5 a6 a7 a8 a9 b0 b1 b2 b3 b4 b5 b6 b7 b8 b9 c0 c3 c5 c6 c7 c8 c9 d3 d4 d5 d6 d7 d8 d9 e3 e4 e5 e6 e7 e8 e9 f0 f5 f6 f7 f8 f9 g0 g6 g7 g8 g9 h0 h9 i0 i4 i9 j0 j1 j2 j3 j4 j5 j6 j7 j8 j9 k0 k3 k4 k5 k6 k7 k8 k9 l0 l1 l2 l3 l4 l5 l6 l7 l8 l9 m0 m1 m2 m3 m4 m5 m6 m7 m8 m9:Value⦄ (r:Nat) (j:Nat) (s:SyM),(r+k=20∧j≤g∧Ac.needS (List.map (fun x:EnM=>x.en) M) g j+(r:Int)=N0∧SyAt wr sb s∧(∃ h:j<(List.map (fun x:EnM=>x.en) M).length,s.p.now=(((List.map (fun x:EnM=>x.en) M)[j]'h).hd,((List.map (fun x:EnM=>x.en) M)[j]'h).nxt,0))∧s.since.length=r∧s.goal=(g:Int)∧s.far=(g:Int)∧s.rounds=(r:Int)∧Below W4.heap.size W4 wr)→Φ {tmps:=#[s0,s1,.pointer (some ⟨xb,0,none⟩),.pointer (some ⟨eb,0,none⟩),.bool false,.slice (some ⟨ad,off,none⟩) M.length mc,.int .i64 (i:Int),.int .i64 (g:Int),.pointer (some ⟨mb+1,0,none⟩),.pointer (some ⟨sb,0,none⟩),.int .i64 0,s2,s3,s4,s5,s6,s7,s8,s9,a0,a2,a3,a4,a5,a6,a7,a8,a9,b0,b1,b2,b3,b4,b5,b6,b7,b8,b9,c0,c3,c5,c6,c7,c8,c9,d3,d4,d5,d6,d7,d8,d9,e3,e4,e5,e6,e7,e8,e9,f0,f5,f6,.int .i64 (r:Int),f7,f8,f9,g0,g6,g7,g8,g9,h0,h9,i0,i4,i9,j0,j1,j2,j3,j4,j5,j6,j7,j8,j9,k0,k3,k4,k5,k6,k7,k8,k9,l0,l1,l2,l3,l4,l5,l6,l7,l8,l9,m0,m1,m2,m3,m4,m5,m6,m7,m8,m9],defers:= []})→Φ a) (20) ?_ ?_
 ·refine fun Φ hΦ=>hΦ (0) (i) (⟨⟨p.en.hd,kA,kc,p.en.nxt,nA,nc,0⟩,[],none,0,(g:Int),(g:Int),0⟩) ?_;exact ⟨by omega,by have:=HIw.out.1; omega,by rw [HN0.out.1]; simp,HS5.out,⟨by have:=HIw.out; omega,by rw [HEp.out]; rfl⟩,rfl,rfl,rfl,rfl,F5.out.b⟩
 ·intro k1 a1 wr1 hI1 J1 K1 hJ1 hK1;refine hI1 (fun a=>Code.wp _ _ _ a _) ?_;clear hI1 a1;iterate 104 (intro _)
  intro r j s hrel
  show Code.wp _ _ _ _ _;obtain ⟨h1,h2,h3,hS,⟨hj,h4⟩,h5,h6,h7,h8,hb⟩:=hrel;have HO:=ι (HWf.out.one j hj);have hhg:s.now.h.hgt=(j:Int):=by have e:=congrArg (fun p:TrP=>p.1) h4; rw [show s.now.h=((List.map (fun x:EnM=>x.en) M)[j]'hj).hd from e]; exact HO.out.hgt
  have HS6:=ι hS;have F5':Hid (Live W4 wr1 []):=ι ⟨hb,by simp,List.Pairwise.nil⟩;have HInv:=ι (And.intro h1 (And.intro h2 (And.intro h3 (And.intro h5 (And.intro h6 (And.intro h7 (And.intro h8 hhg)))))));have H4:=ι (show ∃ h:j<(List.map (fun x:EnM=>x.en) M).length,s.p.now=(((List.map (fun x:EnM=>x.en) M)[j]'h).hd,((List.map (fun x:EnM=>x.en) M)[j]'h).nxt,0) from ⟨hj,h4⟩);by_cases hr:r<20;rotate_left
  ·exfalso
   have hpos:0≤Ac.needS (List.map (fun x:EnM=>x.en) M) g j:=by
    by_cases hjg:j<g
    ·have:=(Ac.need_pos HWf.out hjg HIw.out.2).1; omega
    ·unfold Ac.needS; rw [if_pos (by omega)]; omega
   have q1:=HN0.out.2.2;have q2:=HIw.out;have q3:=HN.out;omega
  have hr1:(r:Int)<20:=by omega
  have hwr:IntKind.i64.wrap ((r:Int)+1)=(r:Int)+1:=IntWalk.i64_in _ (by omega);clear HO h1 h2 h3 h4 h5 h6 h7 h8 hS hb hj hr hhg;go_wp2_with fail
  refine (sync_Ask wr1 sb s HS6.out).mono ?_;intro e W6 hA;unfold AskEnd at hA;obtain ⟨i1,i2,i3,i5,i6,i7,i8,ihg⟩:=HInv.out;rw [i6,ihg,i7] at hA;by_cases hd:g≤j
  ·rw [if_pos (by omega),decide_eq_true (by omega)] at hA;obtain ⟨rfl,hb⟩:=hA;have F6:=Live.hb F5' hb;have HS6:=ι (HS6.out.next hb);have hjg:j=g:=by omega
   subst hjg;clear hb hd i1 i2 i3 i5 i6 i7 i8 ihg hr1 hwr F5' F5 HS5;have F6a:=Live.ha F6 #[ζ,ζ,ζ,ε,ε,ζ] 50;have TH:(W6.alloc (.cells #[ζ,ζ,ζ,ε,ε,ζ] 50)).there W6.heap.size 0 6:=F6a.out.there 0 6 rfl (by decide);have F7:Hid (Live W4 ((W6.alloc (.cells #[ζ,ζ,ζ,ε,ε,ζ] 50)).setCells W6.heap.size 0 [ζ,ζ,ζ,ε,ε,ζ]) [(W6.heap.size,50,#[ζ,ζ,ζ,ε,ε,ζ])]):=Live.hall F6a 0 _ rfl rfl;have HS7:Hid (SyAt ((W6.alloc (.cells #[ζ,ζ,ζ,ε,ε,ζ] 50)).setCells W6.heap.size 0 [ζ,ζ,ζ,ε,ε,ζ]) sb s):=ι (HS6.out.next (((Below.refl _ W6).alloc (Nat.le_refl _) _).grown (grown_setAll (g:=W6.heap.size) [ζ,ζ,ζ,ε,ε,ζ] 0 _ (World.grownBy.refl _ _)) (by rw [World.size_alloc]; omega) (fun k e=>Nat.le_of_eq (Option.some.inj e))));go_upto_region 19 with ((with_reducible refine at_store 67 ?_); refine wpList_store_mid rfl 50 _ _ rfl W6.heap.size 0 #[ζ,ζ,ζ,ε,ε,ζ] rfl rfl TH SZQ.out (by simp [Value.oneCell']) ?_)
   generalize World.setCells _ W6.heap.size 0 _=W7 at F7 HS7 ⊢;generalize W6.heap.size=qb at F7 ⊢;clear TH F6a F6 HS6;obtain ⟨i1,i2,i3,i5,i6,i7,i8,ihg⟩:=HInv.out;have hjl:=HG.out.2;obtain ⟨pg,hpg⟩:∃ p,M[j]'hjl=p:=⟨_,rfl⟩
   have HOg:Hid (Led.One pg.en j):=ι (by have:=HWf.out.one j (by rw [List.length_map]; exact hjl); rw [List.getElem_map,hpg] at this; exact this);have HOkg:=ι (hpg ▸ HE4.out.o _ (List.getElem_mem hjl));have hnh:s.now.h=pg.en.hd:=by
    obtain ⟨h,e⟩:=H4.out
    have:=congrArg (fun p:TrP=>p.1) e
    rw [show s.now.h=((List.map (fun x:EnM=>x.en) M)[j]'h).hd from this,List.getElem_map,hpg]
   obtain ⟨ad',off',hMA',_,hcg⟩:=ent_cells HE4.out.r hjl;injection hMA' with hMA'
   injection hMA' with ea eo _
   subst ea;subst eo;rw [hpg] at hcg;have HCg:Hid (∀ W,Below W4.heap.size W4 W→W.rangeAt ad (off+j*17) (η pg.en.hd [.slice pg.kA pg.en.hd.sk.length pg.kc])):=ι (fun W hW q u hu=>by
    refine hcg W hW q u ?_;have hq:q<11:=(List.getElem?_eq_some_iff.1 hu).1;rw [←hu];rcases q with _|_|_|_|_|_|_|_|_|_|_|q<;>first|rfl|omega)
   have HDo:=ι (fun W (hW:Below W7.heap.size W7 W)=>sync_Done W sb s (HS7.out.next hW));rw [i6,ihg,decide_eq_true (show (j:Int)≤(j:Int) by omega)] at HDo;have HTr:=ι (fun W (hW:Below W7.heap.size W7 W)=>sync_Trusted W sb s (HS7.out.next hW));unfold TruEnd at HTr;rw [hnh] at HTr;have SZH2:Hid ((Tryz.prog.info? 41).map (·.size)=some 11):=ι (by kernel_rfl);have hj1:(j:Int)<M.length:=by omega
   have hj0:(0:Int)≤j:=by omega
   have HEps:=ι (fun W (hW:Below W4.heap.size W4 W)=>law35_epochs W M HWf.out (some ⟨ad,off,none⟩) mc (HE4.out.next hW) i j (by have:=HG.out; omega) hjl);have hep:(M[j]'hjl).en.hd.epo - (M[i+1]'(by have:=HG.out; omega)).en.hd.epo+1=(r:Int):=by
    have e1:=Ac.need_epochs HWf.out HIw.out.1 HIw.out.2;rw [Ac.epoA_of HIw.out.2,Ac.epoA_of (show i+1<(List.map (fun x:EnM=>x.en) M).length by have:=HIw.out; omega),List.getElem_map,List.getElem_map] at e1;rw [←e1,HN0.out.1];have e2:Ac.needS (List.map (fun x:EnM=>x.en) M) j j=0:=by unfold Ac.needS; rw [if_pos (Nat.le_refl _)]
    rw [e2] at i3;omega
   rw [hep] at HEps;have HRo:=ι (fun W (hW:Below W7.heap.size W7 W)=>sync_Rounds W sb s (HS7.out.next hW));rw [i8] at HRo;have HSi:=ι (fun W (hW:Below W7.heap.size W7 W)=>sync_Since W sb s (HS7.out.next hW) (by omega));rw [i5] at HSi;clear i1 i2 i3 i5 i6 i7 i8 ihg hcg hep;have FB:=ι (Live.start W7);have F:=live_drew F7;have FB:=live_drew FB;refine wp_region_held_drew (S:=fun w'=>w'.rangeAt ad (off+j*17) (η pg.en.hd [.slice pg.kA pg.en.hd.sk.length pg.kc])∧True) (by kernel_rfl) ⟨HCg.out _ F.out.b,trivial⟩ (fun hHeld=> ?_);generalize W7.drew=Wd at F FB hHeld ⊢;try go_frame
   refine tk 0 84 rfl ?_;try go_frame
   refine rd1 1 rfl (fun K hK=> ?_);go_simp
   refine (HDo.out _ FB.out.b).mono ?_;rintro e V1 ⟨rfl,hb⟩;have F:=Live.hb F hb;have FB:=Live.hb FB hb;clear hb;go_simp
   refine hK.out _ _ ⟨HCg.out _ F.out.b,trivial⟩ (fun hHeld=> ?_);clear hK K;try go_frame
   refine tk 2 86 rfl ?_;try go_frame
   refine tk 3 87 rfl ?_;try go_frame
   refine tk 5 89 rfl ?_;try go_frame
   refine tk 6 90 rfl ?_;try go_frame
   refine tk 7 91 rfl ?_;try go_frame
   refine rd1 4 rfl (fun K hK=> ?_);go_simp
   refine (HRo.out _ FB.out.b).mono ?_;rintro e V2 ⟨rfl,rfl⟩;go_simp
   refine hK.out _ _ ⟨HCg.out _ F.out.b,trivial⟩ (fun hHeld=> ?_);clear hK K;try go_frame
   refine rd1 8 rfl (fun K hK=> ?_);go_simp
   refine (HEps.out _ F.out.b).mono ?_;rintro e V3 ⟨rfl,hb⟩;have F:=Live.hb F hb;have FB:=Live.hb FB hb;clear hb;go_simp
   refine hK.out _ _ ⟨HCg.out _ F.out.b,trivial⟩ (fun hHeld=> ?_);clear hK K;try go_frame
   refine tk 9 93 rfl ?_;try go_frame
   refine tk 10 94 rfl ?_;try go_frame
   refine tk 11 95 rfl ?_;try go_frame
   refine tk 12 96 rfl ?_;try go_frame
   refine tk 15 99 rfl ?_;try go_frame
   refine tk 16 100 rfl ?_;try go_frame
   refine tk 17 101 rfl ?_;try go_frame
   refine tk 18 102 rfl ?_;try go_frame
   refine' wpAnyH_take (i:=19) (oi:=⟨some 103,_,_,_,_,_⟩) (v:=_) rfl (by kernel_rfl) (by kernel_rfl) (by kernel_rfl) (fun _ _ _ h=>h) (yieldsIf_load_mid (by rfl) _ _ rfl ad (off+j*17) rfl (η pg.en.hd [.slice pg.kA pg.en.hd.sk.length pg.kc]) _ (fun w h=>h.1) Tryz.underlying41 rfl SZH2.out) (by assumption) ?_
   try go_frame
   refine rd1 13 rfl (fun K hK=> ?_);go_simp
   refine (HTr.out _ FB.out.b).mono ?_;rintro e V4 ⟨kA2,kc2,nA2,nc2,rfl,hb,hok⟩;have F:=Live.hb F hb;have FB:=Live.hb FB hb;have HSh:=ι (book_SameHeader_eq V4 pg.en.hd kA2 pg.kA kc2 pg.kc hok.k (reads_base HOkg.out.k F.out.b) (by have:=HOg.out.ok.sk_le; omega));clear hb hok;have hfd:=fun W=>tr_field0 (.int .i64 pg.en.hd.hgt) (.int .i64 pg.en.hd.epo) (.int .i64 pg.en.hd.vw) (.bool pg.en.hd.last) (.string ⟨pg.en.hd.par.toArray⟩) (.string ⟨pg.en.hd.st.toArray⟩) (.string ⟨pg.en.hd.rc.toArray⟩) (.string ⟨pg.en.hd.tx.toArray⟩) (.string ⟨pg.en.hd.mem.toArray⟩) (.string ⟨pg.en.hd.nxt.toArray⟩) (.slice kA2 pg.en.hd.sk.length kc2) (.slice nA2 s.now.nx.length nc2) s.now.ta W;go_simp
   refine hK.out _ _ ⟨HCg.out _ F.out.b,trivial⟩ (fun hHeld=> ?_);clear hK K;try go_frame
   refine tk 14 98 rfl ?_;try go_frame
   refine rd1 20 rfl (fun K hK=> ?_);go_simp
   refine HSh.out.mono ?_;rintro e V5 ⟨rfl,hb⟩;have F:=Live.hb F hb;have FB:=Live.hb FB hb;clear hb hfd HSh;go_simp
   refine hK.out _ _ ⟨HCg.out _ F.out.b,trivial⟩ (fun hHeld=> ?_);clear hK K;try go_frame
   refine tk 21 105 rfl ?_;try go_frame
   refine tk 22 106 rfl ?_;try go_frame
   refine tk 23 107 rfl ?_;try go_frame
   refine tk 26 110 rfl ?_;try go_frame
   refine rd1 24 rfl (fun K hK=> ?_);go_simp
   refine (HSi.out _ FB.out.b).mono ?_;rintro e V6 ⟨sA6,sc6,rfl,hb⟩;have F:=Live.hb F hb;have FB:=Live.hb FB hb;clear hb;go_simp
   refine hK.out _ _ ⟨HCg.out _ F.out.b,trivial⟩ (fun hHeld=> ?_);clear hK K;try go_frame
   refine tk 25 109 rfl ?_;try go_frame
   refine rd1 27 rfl (fun K hK=> ?_);go_simp
   refine (HRo.out _ FB.out.b).mono ?_;rintro e V7 ⟨rfl,rfl⟩;go_simp
   refine hK.out _ _ ⟨HCg.out _ F.out.b,trivial⟩ (fun hHeld=> ?_);clear hK K;try go_frame
   refine tk 28 112 rfl ?_;try go_frame
   refine tk 29 113 rfl ?_;try go_frame
   refine tk 30 4 rfl ?_;try go_frame
   refine wpAnyH_done (by kernel_rfl) ?_ _;clear hHeld;go_wp2_with fail
   exact HP.out _ (HB4.out.trans (F.out.b.mono HB4.out.size))
  ·rw [if_neg (by omega),decide_eq_false (by omega)] at hA;obtain ⟨rfl,hb⟩:=hA;have F6:=Live.hb F5' hb;have HS6:=ι (HS6.out.next hb);have HJ:=ι (show j<g by omega);clear hb hd i1 i2 i3 i5 i6 i7 i8 ihg F5';have F6a:=Live.ha F6 #[ζ,ζ,ζ,ε,ε,ζ] 50;have TH:(W6.alloc (.cells #[ζ,ζ,ζ,ε,ε,ζ] 50)).there W6.heap.size 0 6:=F6a.out.there 0 6 rfl (by decide);have F7:Hid (Live W4 ((W6.alloc (.cells #[ζ,ζ,ζ,ε,ε,ζ] 50)).setCells W6.heap.size 0 [.int .i64 2,j,g,ε,ε,ζ]) [(W6.heap.size,50,#[.int .i64 2,j,g,ε,ε,ζ])]):=Live.hall F6a 0 _ rfl rfl;have HS7:Hid (SyAt ((W6.alloc (.cells #[ζ,ζ,ζ,ε,ε,ζ] 50)).setCells W6.heap.size 0 [.int .i64 2,j,g,ε,ε,ζ]) sb s):=ι (HS6.out.next (((Below.refl _ W6).alloc (Nat.le_refl _) _).grown (grown_setAll (g:=W6.heap.size) [.int .i64 2,j,g,ε,ε,ζ] 0 _ (World.grownBy.refl _ _)) (by rw [World.size_alloc]; omega) (fun k e=>Nat.le_of_eq (Option.some.inj e))));go_upto_region 16 with ((with_reducible refine at_store 67 ?_); refine wpList_store_mid rfl 50 _ _ rfl W6.heap.size 0 #[.int .i64 2,j,g,ε,ε,ζ] rfl rfl TH SZQ.out (by simp [Value.oneCell']) ?_)
   generalize World.setCells _ W6.heap.size 0 _=W7 at F7 HS7 ⊢;generalize W6.heap.size=qb at F7 ⊢;clear TH F6a F6 HS6;have c1:=(F7.out.blk 0 rfl).d1;have c2:=(F7.out.blk 0 rfl).d2;have HBs:=ι (law35_best W7 M (some ⟨ad,off,none⟩) mc (HE4.out.next F7.out.b) (by have:=HN.out; omega) (j:Int) (j+1) (by omega) (by have:=HN.out; have:=HJ.out; have:=HG.out; omega) (g:Int));have HTop:=ι (Ac.top_best HWf.out HJ.out HIw.out.2 M rfl);generalize Led.bestN M (g:Int) M.length (j+1)=jj at HBs HTop;have hjj:=HTop.out.le;go_wp2_with fail
   refine HBs.out.mono ?_;rintro e W8 ⟨rfl,hb⟩;have F8:=Live.hb F7 hb;have HS8:=ι (HS7.out.next hb);clear hb HBs c1 c2 F7 HS7;have hjl:jj<M.length:=by have:=HG.out; omega
   obtain ⟨p3,hp3⟩:∃ p,M[jj]'hjl=p:=⟨_,rfl⟩
   have HO3:Hid (Led.One p3.en jj):=ι (by have:=HWf.out.one jj (by rw [List.length_map]; exact hjl); rw [List.getElem_map,hp3] at this; exact this);have HOk3:=ι (hp3 ▸ HE4.out.o _ (List.getElem_mem hjl));have HE3:Hid (∃ h:jj<(List.map (fun x:EnM=>x.en) M).length,p3.en=(List.map (fun x:EnM=>x.en) M)[jj]'h):=ι ⟨by rw [List.length_map]; exact hjl,by rw [List.getElem_map,hp3]⟩;have HAn:=ι (law35_answer W8 M (some ⟨ad,off,none⟩) mc (HE4.out.next F8.out.b) (by have:=HN.out; omega) jj hjl p3 hp3 (Pw.okM_len HO3.out.set).2 (Pw.okM_len HO3.out.nxt).2);clear hp3 hjl hjj;go_wp2_with fail
   refine HAn.out.mono ?_;rintro e W9 ⟨hA,hc,sA,sc,nA3,nc3,gA,gc,rfl,hb,r1,r2,r3,r4,f1,f2,f3,f4⟩;have F9:=Live.hb F8 hb;have HS9:=ι (HS8.out.next hb);have hlt5:=HS8.out.blk.lt;have HBg:Hid (∀ W,W9.grownBy W (some sb)→Below W4.heap.size W4 W):=ι (fun W hg=>F9.out.b.grown hg F9.out.b.size (fun k e=>by have:=Option.some.inj e; have:=HSb.out; omega));have HAt:Hid (∀ W,W9.grownBy W (some sb)→AnAt W (ansOf p3 hA hc sA sc nA3 nc3 gA gc)):=ι (fun W hg=>ans_at HOk3.out HO3.out HSb.out hlt5 F9.out.b hg r1 r2 r3 r4 f1 f2 f3 f4);obtain ⟨i1,i2,i3,i5,i6,i7,i8,ihg⟩:=HInv.out;have HTk:=ι (sync_Take W9 sb s HS9.out (ansOf p3 hA hc sA sc nA3 nc3 gA gc) (jj:Int) 0 mb v (Led.signW bad (List.map (fun x:EnM=>x.en) M)) HAt.out (fun W hg=>HTab.out.below (HBg.out W hg)) (fun W hg=>HT4.out.next (HBg.out W hg)) (by have:=(Pw.okM_len HO3.out.nxt).2; show p3.en.nxt.length≤_; omega) (fun y hy=>by have e:y=(p3.en.hd,p3.kA,p3.kc):=(by simpa [ansOf] using hy); subst e; have:=HO3.out.ok.sk_le; show p3.en.hd.sk.length≤_; omega) (by omega) (by omega) (by omega) (by have:=HN.out; have:=HG.out; omega) (by omega) (by have:=HN.out; have:=HG.out; omega) (by omega));clear hb r1 r2 r3 r4 f1 f2 f3 f4 HAn hlt5 F8 HS8 HAt i1 i2 i3 i5 i6 i7 i8 ihg;have HPu:Hid (∀ cd (s':SyM),TakeR s.p (ansOf p3 hA hc sA sc nA3 nc3 gA gc) (jj:Int) 0 (Led.signW bad (List.map (fun x:EnM=>x.en) M)) cd s'.p→cd=0∧(∃ h:jj<(List.map (fun x:EnM=>x.en) M).length,s'.p.now=(((List.map (fun x:EnM=>x.en) M)[jj]'h).hd,((List.map (fun x:EnM=>x.en) M)[jj]'h).nxt,0))∧s'.since.length=r+1∧s'.goal=(g:Int)∧s'.far=(g:Int)∧s'.rounds=((r+1:Nat):Int)):=ι (fun cd s' hR=>by
    obtain ⟨i1,i2,i3,i5,i6,i7,i8,ihg⟩:=HInv.out;obtain ⟨hj,h4⟩:=H4.out;obtain ⟨hjj,hpe⟩:=HE3.out;have hlt:=HTop.out.lt;have hle:=HTop.out.le;have hRd:=round_own HWf.out (by rw [List.length_map]; have:=HN.out; omega) bad hj hjj (ta:=0) (now:=0) (by decide) (by decide) (by decide) (by decide) hpe h4 (by show (j:Int)<s.goal; rw [i6]; have:=HJ.out; omega) (by show (jj:Int)≤s.far; rw [i7]; omega) hR;have hcd:cd=0:=by rw [hRd.code,Ac.top_own HWf.out HIw.out.2 HTop.out hlt hle,if_pos (Nat.le_refl _)]
    obtain ⟨_,hp'⟩:=hRd.ok hcd;have hsl:s'.since.length=s.since.length+1:=by
     have:=congrArg (fun p:SyP=>p.since.length) hp'
     simpa [SyM.p] using this
    exact ⟨hcd,⟨hjj,congrArg SyP.now hp'⟩,by rw [hsl,i5],(congrArg SyP.goal hp').trans i6,(congrArg SyP.far hp').trans i6,((congrArg SyP.rounds hp').trans (by show s.rounds+1=_; rw [i8]; rfl))⟩)
   unfold ansOf at HTk HPu;simp only [List.length_cons,List.length_nil,Nat.zero_add,List.length_map] at HTk;go_wp2_with fail
   refine HTk.out.mono ?_;rintro e W10 ⟨cd,s',rfl,hb,hS',hR⟩;obtain ⟨hcd,g1,g2,g3,g4,g5⟩:=HPu.out cd s' hR;have HS10:=ι hS';have HBw:=ι (F9.out.b.trans (hb.mono HSb.out));have HGs:=ι (And.intro g1 (And.intro g2 (And.intro g3 (And.intro g4 g5))));subst hcd;clear hb hS' hR g1 g2 g3 g4 g5 HTk HPu F9 HS9 HBg;go_wp2_with fail
   refine Handed.intro (20 - (r+1)) ?_ (hJ1 _ _ _ (fun Φ hΦ=>hΦ (r+1) (jj) (s') ?_))
   ·have:=HInv.out.1; omega
   ·obtain ⟨g1,g2,g3,g4,g5⟩:=HGs.out;have hnd:=Ac.need_top HWf.out HJ.out HIw.out.2 HTop.out;have h3:=HInv.out.2.2.1;exact ⟨by have:=HInv.out.1; omega,HTop.out.le,by rw [hnd]; omega,HS10.out,g1,g2,g3,g4,g5,HBw.out⟩
end
end Go.Proofs.YtdkiloganbhfkaaGreatDoor