import Derived.Test.YtdkiloganbhfkaaGreatDoorJ25
import Derived.Test.YtdkiloganbhfkaaGreatDoorJ22
import Derived.Test.YtdkiloganbhfkaaGreatDoorJ27
set_option linter.unusedSimpArgs false
set_option linter.unusedVariables false
set_option maxHeartbeats 4000000
set_option maxRecDepth 100000
namespace Go.Proofs.YtdkiloganbhfkaaGreatDoor
section
open Go.RowKit Go.Instr
attribute [local go_sem] ba_get ByteArray.mk_append_mk
attribute [local go_sem ↓] Go.wp_at_zero Go.wp_at_succ
def ItemsREnd (w:World) (r:List Trie.KV × Nat) (e:Ending) (w':World):Prop:=∃ A n c,e= .returned (.tuple #[.slice A n c,r.2])∧n=r.1.length∧w'.ownsRow w.heap.size 218 2 (.slice A n c) n (icells r.1)∧Below w.heap.size w w'
theorem rcItems_app:∀ (l:List (Int × List UInt8 × Int)) (k:Nat) (x:Int × List UInt8 × Int),Trie.rcItems k (l++ [x])=Trie.rcItems k l++ [([UInt8.ofNat (k+l.length)],(encW x.1 x.2.1 x.2.2).1)]
 | [],k,x=>by simp [Trie.rcItems]
 |y::l,k,x=>by
  rw [List.cons_append,Trie.rcItems,rcItems_app l (k+1) x,Trie.rcItems,List.length_cons];rw [show k+1+l.length=k+(l.length+1) by omega];rfl
theorem itemsF_bad {l:List (Int × List UInt8 × Int)} (h:8<l.length):Trie.itemsF l=([],2):=by
 unfold Trie.itemsF treeF;rw [if_pos h,if_neg (by simp)]
theorem itemsF_no {l:List (Int × List UInt8 × Int)} (h:l.length≤8) {x:Int × List UInt8 × Int} (hx:x∈l) (hn:¬rcOk x.1 x.2.1 x.2.2):Trie.itemsF l=([],3):=by
 have e:(treeF l).2=3:=by
  unfold treeF;rw [if_neg (by omega),Trie.treeW_bad,if_neg (fun h=>hn (h x hx))]
 unfold Trie.itemsF;rw [e,if_neg (by simp)]
theorem itemsF_ok {l:List (Int × List UInt8 × Int)} (h:l.length≤8) (hx:∀ x∈l,rcOk x.1 x.2.1 x.2.2):Trie.itemsF l=(Trie.rcItems 0 l,0):=by
 have e:(treeF l).2=0:=by
  unfold treeF;rw [if_neg (by omega),Trie.treeW_bad,if_pos hx]
 unfold Trie.itemsF;rw [e,if_pos rfl]
theorem ref17_Items (l : List (Int × List UInt8 × Int)) (hs : ∀ x ∈ l, x.2.1.length ≤ 9223372036854775807) (w : World) (A : Option Addr) (c : Nat) (HR : Reads w w.heap.size 3 A l.length (rcells l)) :
    Calls Tryz.prog 159 #[.slice A l.length c] w (ItemsREnd w (Trie.itemsF l)) := by
  have HP : Hid (∀ q (cd : Nat) A n c w', Trie.itemsF l = (q, cd) → n = q.length → w'.ownsRow w.heap.size 218 2 (.slice A n c) n (icells q) → Below w.heap.size w w' → ItemsREnd w (Trie.itemsF l) (.returned (.tuple #[.slice A n c, cd])) w') := ι (fun q cd A n c w' e h1 h2 h3 => by rw [e]; exact ⟨A, n, c, rfl, h1, h2, h3⟩)
  generalize ItemsREnd w (Trie.itemsF l) = P at HP ⊢
  by_cases hl : 8 < l.length
  · have HE := ι (itemsF_bad hl)
    have hl1 : (8 : Int) < (l.length : Int) := by omega
    clear hl HR hs
    go_enter Tryz.func159, Tryz.ntmps159
    go_wp2_with fail
    exact HP.out [] 2 none 0 0 _ HE.out rfl (World.ownsRow_nil _ _ _ _) (Below.refl _ _)
  have hl1 : ((8 : Int) < (l.length : Int)) = False := by simp; omega
  have HRR := ι HR
  have HS := ι hs
  have HL := ι (show l.length ≤ 8 by omega)
  clear HR hs hl
  go_enter Tryz.func159, Tryz.ntmps159
  go_wp2_with fail
  refine wp_loop_ghost_k (fun k a wr => ∀ Φ : Act → Prop, (∀ ⦃s1 s2 s3 s6 s7 s8 s9 a0 a2 a3 a4 a5 a6 a7 a8 a9 b2 b3 b4 b5 b6 b7 b8 b9 c0 c1 c2 c3 c5 c6 c7 c8 : Value⦄ (i co : Nat) (Ao : Option Addr), (i + k = l.length ∧ (∀ x ∈ l.take i, rcOk x.1 x.2.1 x.2.2) ∧ wr.ownsRow w.heap.size 218 2 (.slice Ao i co) i (icells (Trie.rcItems 0 (l.take i))) ∧ Below w.heap.size w wr) → Φ { tmps := #[.slice A l.length c, s1, s2, s3, .slice Ao i co, .int .i64 (i : Int), s6, s7, s8, s9, a0, a2, a3, a4, a5, a6, a7, a8, a9, b2, b3, b4, b5, b6, b7, b8, b9, c0, c1, c2, c3, c5, c6, c7, c8], defers := [] }) → Φ a) (l.length) ?_ ?_
  · refine fun Φ hΦ => hΦ (0) (0) (none) ?_
    exact ⟨by omega, by simp, World.ownsRow_nil _ _ _ _, Below.refl _ _⟩
  · intro k1 a1 wr1 hI1 J1 K1 hJ1 hK1
    refine hI1 (fun a => Code.wp _ _ _ a _) ?_
    clear hI1 a1
    intro s0 s1 s2 s3 s4 s5 s6 s7 s8 s9 a0 a2 a3 a4 a5 a6 a7 a8 a9 b2 b3 b4 b5 b6 b7 b8 b9 c0 c1 c2 c3 c5 i co Ao hrel
    show Code.wp _ _ _ _ _
    obtain ⟨h1, h2, own, hb⟩ := hrel
    by_cases hi : i < l.length
    · obtain ⟨ad, off, rfl, hbl, hcell⟩ := HRR.out.form (by omega) (by omega)
      have ic := rcells_at hi
      have hil := rcells_length l
      have e0 : (rcells l)[3 * i]'(by omega) = .int .i64 l[i].1 := by
        have := ic.1; rw [List.getElem?_eq_getElem (by omega)] at this; exact Option.some.inj this
      have e1 : (rcells l)[3 * i + 1]'(by omega) = .string ⟨l[i].2.1.toArray⟩ := by
        have := ic.2.1; rw [List.getElem?_eq_getElem (by omega)] at this; exact Option.some.inj this
      have e2 : (rcells l)[3 * i + 2]'(by omega) = .int .i64 l[i].2.2 := by
        have := ic.2.2; rw [List.getElem?_eq_getElem (by omega)] at this; exact Option.some.inj this
      have q0 := hcell (3 * i) (by omega)
      have q1 := hcell (3 * i + 1) (by omega)
      have q2 := hcell (3 * i + 2) (by omega)
      rw [e0] at q0
      rw [e1] at q1
      rw [e2] at q2
      have HC : Hid (∀ W, Below w.heap.size w W → W.cell? ⟨ad, off + i * 3, none⟩ = some (.int .i64 l[i].1) ∧ W.cell? ⟨ad, off + i * 3 + 1, none⟩ = some (.string ⟨l[i].2.1.toArray⟩) ∧ W.cell? ⟨ad, off + i * 3 + 2, none⟩ = some (.int .i64 l[i].2.2)) := ι (fun W hb => by
        refine ⟨?_, ?_, ?_⟩
        · rw [show i * 3 = 3 * i by omega]; exact (hb.cell (p := ⟨ad, off + 3 * i, none⟩) hbl).trans q0
        · rw [show off + i * 3 + 1 = off + (3 * i + 1) by omega]; exact (hb.cell (p := ⟨ad, off + (3 * i + 1), none⟩) hbl).trans q1
        · rw [show off + i * 3 + 2 = off + (3 * i + 2) by omega]; exact (hb.cell (p := ⟨ad, off + (3 * i + 2), none⟩) hbl).trans q2)
      have hi1 : (i : Int) < (l.length : Int) := by omega
      have hi0 : (0 : Int) ≤ (i : Int) := by omega
      have htk : l.take (i + 1) = l.take i ++ [l[i]] := List.take_succ_eq_append_getElem hi
      have hlen := HS.out _ (List.getElem_mem hi)
      have hmem : l[i] ∈ l := List.getElem_mem hi
      have htl : (l.take i).length = i := by rw [List.length_take]; omega
      have HI := ι (And.intro h1 (And.intro h2 (And.intro own (And.intro hb (And.intro htk (And.intro hmem htl))))))
      have hi8 : i < 8 := Nat.lt_of_lt_of_le hi HL.out
      obtain ⟨r0, r1, r2⟩ := HC.out wr1 hb
      clear ic hil e0 e1 e2 q0 q1 q2 hcell h1 h2 own hb htk hmem htl HS
      generalize l[i] = x at *
      obtain ⟨rc, rf, rq⟩ := x
      have HFi := ι (ref17_Fine rc rf rq hlen wr1)
      unfold rcV at HFi
      by_cases hok : rcOk rc rf rq
      rotate_left
      · have HE := ι (itemsF_no HL.out HI.out.2.2.2.2.2.1 hok)
        rw [decide_eq_false hok] at HFi
        clear hok HC
        go_wp2_with fail
        refine HFi.out.mono ?_
        rintro e w2 ⟨rfl, hb2⟩
        have HB2 := ι (HI.out.2.2.2.1.nxt hb2)
        clear hb2
        go_wp2_with fail
        exact HP.out [] 3 none 0 0 _ HE.out rfl (World.ownsRow_nil _ _ _ _) HB2.out
      rw [decide_eq_true hok] at HFi
      obtain ⟨o1, o2, o3, o4, o5, o6⟩ := id hok
      obtain ⟨cn, rfl⟩ := Int.eq_ofNat_of_zero_le o1
      obtain ⟨qn, rfl⟩ := Int.eq_ofNat_of_zero_le o5
      have HWr := ι (fun W => ref17_Written cn qn rf (by omega) o4 (by omega) W)
      have HEn : Hid ((encW (cn : Int) rf (qn : Int)).1 = numW cn ++ (textW rf ++ numW qn)) := ι (by rw [encW, if_pos hok]; simp)
      have HOk := ι hok
      generalize numW cn ++ (textW rf ++ numW qn) = bytes at *
      clear o1 o2 o3 o4 o5 o6 hok hlen
      go_wp2_with fail
      refine HFi.out.mono ?_
      rintro e w2 ⟨rfl, hb2⟩
      have HB2 := ι (HI.out.2.2.2.1.nxt hb2)
      have O2 := ι (own_below HI.out.2.2.1 hb2)
      obtain ⟨s0, s1, s2⟩ := HC.out w2 HB2.out
      have hal0 : ∀ o : Obj, (w2.alloc o).cell? ⟨ad, off + i * 3, none⟩ = some (.int .i64 (cn : Int)) := fun o => (HC.out _ (HB2.out.alloc HB2.out.size o)).1
      have hal1 : ∀ o : Obj, (w2.alloc o).cell? ⟨ad, off + i * 3 + 1, none⟩ = some (rf : Value) := fun o => (HC.out _ (HB2.out.alloc HB2.out.size o)).2.1
      have hal2 : ∀ o : Obj, (w2.alloc o).cell? ⟨ad, off + i * 3 + 2, none⟩ = some (.int .i64 (qn : Int)) := fun o => (HC.out _ (HB2.out.alloc HB2.out.size o)).2.2
      clear hb2 r0 r1 r2 HFi
      have b0 : (0 : Int) ≤ (i : Int) := by omega
      have b1 : (i : Int) < 256 := by omega
      have e1 : IntKind.u8.wrap (i : Int) = i := IntWalk.u8_in _ (by omega)
      have cd := conv1d w2 (i : Int) b0 b1
      have cd2 := conv1 w2 (i : Int) b0 b1
      rw [Int.toNat_natCast] at cd cd2
      obtain ⟨i0, hi0', hz0, hz1, hz2⟩ := info_parts info_item
      go_upto_region 9 with fail
      refine wp_region_noPanic ?_
      go_region_law (first
        | (refine step_call rfl 185 #[.agg #[cn, rf, qn]] (by go_simp) _ (HWr.out _) ?_; rintro e w3 ⟨rfl, hb3⟩; refine ⟨_, rfl, ?_⟩; have B3 : Below w2.heap.size w2 w3 := (by first | exact Below.nxt ((Below.refl _ _).alloc (Nat.le_refl _) _).drew hb3 | exact Below.nxt (Below.refl _ _).drew hb3 | exact ((Below.refl _ _).alloc (Nat.le_refl _) _).nxt hb3); have O3 := ι (And.intro (own_below O2.out B3) (HB2.out.nxt B3)); have cd3 := conv1 w3 (i : Int) b0 b1; rw [Int.toNat_natCast] at cd3; (first | (have cd4 := conv1_below w2 w3 (i : Int) b0 b1 (by have := hb3.mono (show w2.heap.size + 1 ≤ _ from by simp); exact this); rw [Int.toNat_natCast] at cd4) | skip); clear hb3 B3)
        | (refine step_append_row w3 218 [.string ⟨#[UInt8.ofNat i]⟩, bytes] rfl _ _ 44 rfl w.heap.size 2 32 _ info_item Tryz.underlying44 rfl (by decide) (.slice Ao i co) i _ rfl O3.out.1 1 1 rfl rfl (by simp [Value.oneCell']) (by simp only [maxLen]; omega) (by omega) w.heap.size w O3.out.2 (Nat.le_refl _) O3.out.2.size ?_; intro v4 w4 own4 hb4 hgr4 ho4 hlt4; obtain ⟨A4, c4, rfl, _, _, _⟩ := own_form own4; have O4 := ι (And.intro own4 hb4); clear own4 hb4 hgr4 ho4 hlt4)
        | (refine step_append_row (w3.alloc (.cells #[.int .u8 (i : Int)] 5)) 218 [.string ⟨#[UInt8.ofNat i]⟩, bytes] rfl _ _ 44 rfl w.heap.size 2 32 _ info_item Tryz.underlying44 rfl (by decide) (.slice Ao i co) i _ rfl (O3.out.1.alloc _) 1 1 (by rw [World.size_alloc]; rfl) rfl (by simp [Value.oneCell']) (by simp only [maxLen]; omega) (by omega) w.heap.size w (O3.out.2.alloc O3.out.2.size _) (Nat.le_refl _) (O3.out.2.alloc O3.out.2.size _).size ?_; intro v4 w4 own4 hb4 hgr4 ho4 hlt4; obtain ⟨A4, c4, rfl, _, _, _⟩ := own_form own4; have O4 := ι (And.intro own4 hb4); clear own4 hb4 hgr4 ho4 hlt4))
      all_goals refine NoPanic.normal ?_
      all_goals go_wp2_with fail
      all_goals (refine Handed.intro (l.length - (i + 1)) ?_ (hJ1 _ _ _ (fun Φ hΦ => hΦ (i + 1) (c4) (A4) ?_)))
      all_goals first
        | (have := HI.out.1; omega)
        | (refine ⟨by have := HI.out.1; omega, ?_, ?_, O4.out.2⟩
           · rw [HI.out.2.2.2.2.1]
             intro x hx
             rcases List.mem_append.1 hx with hx | hx
             · exact HI.out.2.1 x hx
             · rw [List.mem_singleton] at hx
               subst hx
               exact HOk.out
           · have e5 : icells (Trie.rcItems 0 (l.take (i + 1))) = icells (Trie.rcItems 0 (l.take i)) ++ [.string ⟨#[UInt8.ofNat i]⟩, .string ⟨bytes.toArray⟩] := by
               rw [HI.out.2.2.2.2.1, rcItems_app, HI.out.2.2.2.2.2.2, Nat.zero_add]
               simp only [HEn.out, icells, List.flatMap_append, List.flatMap_cons, List.flatMap_nil, List.append_nil]
             rw [e5]
             exact O4.out.1)
    · have hi1 : ((i : Int) < (l.length : Int)) = False := by simp; omega
      obtain rfl : i = l.length := by omega
      have HE := ι (itemsF_ok HL.out (by have := h2; rwa [List.take_length] at this))
      have HO : Hid (wr1.ownsRow w.heap.size 218 2 (.slice Ao l.length co) l.length (icells (Trie.rcItems 0 l)) ∧ Below w.heap.size w wr1) := ι ⟨by have := own; rwa [List.take_length] at this, hb⟩
      clear h1 h2 own hb HS
      go_wp2_with fail
      exact HP.out _ 0 _ _ _ _ HE.out (Trie.rcItems_len l 0).symm HO.out.1 HO.out.2
theorem itemsF_cases (l:List (Int × List UInt8 × Int)):((treeF l).2=0∧Trie.itemsF l=(Trie.itemsW (treeF l).1,0))∨((treeF l).2≠0∧Trie.itemsF l=([],(treeF l).2)):=by
 unfold Trie.itemsF;by_cases h:(treeF l).2=0
 ·exact .inl ⟨h,by rw [if_pos h,Trie.itemsF_eq h]⟩
 ·exact .inr ⟨h,by rw [if_neg h]⟩
theorem ref17_Root (l:List (Int × List UInt8 × Int)) (hs:∀ x∈l,x.2.1.length≤9223372036854775807) (w:World) (A:Option Addr) (c:Nat) (HR:Reads w w.heap.size 3 A l.length (rcells l)):
  Calls Tryz.prog 109 #[.slice A l.length c] w (RRootEnd w (treeF l)):=by
 have HIt:=ι (ref17_Items l hs w A c HR);have hg:=Trie.treeF_good l;have hcn:=treeF_count l;have hcs:=itemsF_cases l;generalize Trie.itemsF l=q at *;obtain ⟨q,qc⟩:=q;generalize treeF l=r at *;obtain ⟨t,cd⟩:=r;simp only at hcs hg hcn;clear HR hs;rcases hcs with ⟨hc,he⟩|⟨hc,he⟩
 ·injection he with he1 he2
  subst hc he1 he2;have HP:Hid (∀ w',Below w.heap.size w w'→RRootEnd w (t,0) (.returned (.tuple #[.string ⟨(Trie.sumT t).toArray⟩,ζ])) w'):=ι (fun w' hb=>⟨rfl,hb⟩);generalize RRootEnd w (t,0)=P at HP ⊢;go_enter Tryz.func109,Tryz.ntmps109
  go_wp2_with fail
  refine HIt.out.mono ?_;rintro e w1 ⟨A1,n1,c1,rfl,hn1,own1,hb1⟩;simp only at hn1 own1;have HB:=ι hb1;have HRt:=ι (ref10_Root w1 t hg (by omega) A1 c1 (by rw [←hn1]; exact Reads.of_own own1));rw [←hn1] at HRt;clear own1 hb1 hn1;go_wp2_with fail
  refine HRt.out.mono ?_;rintro e w2 ⟨rfl,hb2⟩;have HB2:=ι (HB.out.nxt hb2);clear hb2;go_wp2_with fail
  exact HP.out _ HB2.out
 ·injection he with he1 he2
  subst he1 he2;have HP:Hid (∀ w',Below w.heap.size w w'→RRootEnd w (t,qc) (.returned (.tuple #[ε,qc])) w'):=ι (fun w' hb=>⟨by simp [hc],hb⟩);generalize RRootEnd w (t,qc)=P at HP ⊢;have hc1:((qc:Int) !=0)=true:=by simp; exact hc
  clear hc;go_enter Tryz.func109,Tryz.ntmps109
  go_wp2_with fail
  refine HIt.out.mono ?_;rintro e w1 ⟨A1,n1,c1,rfl,hn1,own1,hb1⟩;obtain rfl:n1=0:=hn1;have HB:=ι hb1;clear own1 hb1;go_wp2_with fail
  exact HP.out _ HB.out
theorem Trie.itemsW_len (t:Trie.T):(Trie.itemsW t).length=Trie.count t:=by rw [Trie.itemsW,List.length_map,Trie.length_items]
structure EnM where
 en:En
 tl:List TxM
 n:Nat
 kA:Option Addr
 kc:Nat
 xA:Option Addr
 xc:Nat
 rA:Option Addr
 rc:Nat
 iA:Option Addr
 ic:Nat
 sA:Option Addr
 sc:Nat
 nA:Option Addr
 nc:Nat
def ecell (e:EnM):List Value:= [.int .i64 e.en.hd.hgt,.int .i64 e.en.hd.epo,.int .i64 e.en.hd.vw,.bool e.en.hd.last,.string ⟨e.en.hd.par.toArray⟩,.string ⟨e.en.hd.st.toArray⟩,.string ⟨e.en.hd.rc.toArray⟩,.string ⟨e.en.hd.tx.toArray⟩,.string ⟨e.en.hd.mem.toArray⟩,.string ⟨e.en.hd.nxt.toArray⟩,.slice e.kA e.en.hd.sk.length e.kc,.string ⟨e.en.sum.toArray⟩,.slice e.xA e.tl.length e.xc,.slice e.rA e.en.rcs.length e.rc,.slice e.iA e.n e.ic,.slice e.sA e.en.set.length e.sc,.slice e.nA e.en.nxt.length e.nc]
theorem ecell_len (e:EnM):(ecell e).length=17:=rfl
abbrev ecells (l:List EnM):List Value:=l.flatMap ecell
theorem ecell_one (e:EnM):∀ u∈ecell e,u.oneCell'=true:=by
 intro u hu;simp only [ecell,List.mem_cons,List.not_mem_nil,or_false] at hu;rcases hu with rfl|rfl|rfl|rfl|rfl|rfl|rfl|rfl|rfl|rfl|rfl|rfl|rfl|rfl|rfl|rfl|rfl<;>rfl
theorem ecells_one (l:List EnM):∀ u∈ecells l,u.oneCell'=true:=by
 intro u hu;obtain ⟨e,_,hu⟩:=List.mem_flatMap.1 hu;exact ecell_one e u hu
theorem ecells_snoc (l:List EnM) (e:EnM):ecells l++ecell e=ecells (l++ [e]):=by simp [ecells]
structure EnOk (w:World) (e:EnM):Prop where
 k:Reads w w.heap.size 1 e.kA e.en.hd.sk.length (strv e.en.hd.sk)
 x:TxsAt w e.xA e.tl
 xe:e.en.txs=e.tl.map (·.1)
 r:Reads w w.heap.size 3 e.rA e.en.rcs.length (rcs e.en.rcs)
 i:IAt w e.iA e.n e.ic e.en.st
 s:Reads w w.heap.size 2 e.sA e.en.set.length (mcells e.en.set)
 nx:Reads w w.heap.size 2 e.nA e.en.nxt.length (mcells e.en.nxt)
theorem EnOk.next {w w':World} {e:EnM} (h:EnOk w e) (hb:Below w.heap.size w w'):EnOk w' e:=
 ⟨(h.k.below hb).more hb.size,h.x.next hb,h.xe,(h.r.below hb).more hb.size,h.i.next hb,(h.s.below hb).more hb.size,(h.nx.below hb).more hb.size⟩
structure EntsAt (w:World) (A:Option Addr) (l:List EnM):Prop where
 r:Reads w w.heap.size 17 A l.length (ecells l)
 o:∀ e∈l,EnOk w e
theorem EntsAt.next {w w':World} {A:Option Addr} {l:List EnM} (h:EntsAt w A l) (hb:Below w.heap.size w w'):EntsAt w' A l:=
 ⟨(h.r.below hb).more hb.size,fun e he=>(h.o e he).next hb⟩
theorem ent_cells {w:World} {B:Nat} {A:Option Addr} {l:List EnM} (h:Reads w B 17 A l.length (ecells l)) {i:Nat} (hi:i<l.length):
  ∃ ad off,A=some ⟨ad,off,none⟩∧ad<B∧∀ W,Below B w W→∀ (j:Nat) (v:Value),(ecell l[i])[j]?=some v→W.cell? ⟨ad,off+i*17+j,none⟩=some v:=by
 obtain ⟨ad,off,h1,h2,h3⟩:=flat_cells ecell_len (by decide) h hi;refine ⟨ad,off,h1,h2,fun W hW j v hv=> ?_⟩;exact h3 W hW j v hv
theorem reads_of_blk {w:World} {g t size n:Nat} {xs:List Value} (h:Blk w g t xs.toArray) (hn:xs.length=n*size):Reads w w.heap.size size (some ⟨g,0,none⟩) n xs:=by
 refine ⟨hn,fun _=>⟨_,rfl,h.lt,fun j u hu=> ?_⟩⟩;have ha:(⟨g,0,none⟩:Addr).add j=⟨g,j,none⟩:=by unfold Addr.add; split<;>simp_all
 rw [ha,h.cell];simpa using hu
def LedEnd (w:World) (L:List En × Nat) (e:Ending) (w':World):Prop:=
 ∃ (l:List EnM) (A:Option Addr) (c:Nat),e= .returned (.tuple #[.slice A l.length c,L.2])∧Below w.heap.size w w'∧l.map (·.en)=L.1∧EntsAt w' A l∧l.length≤c
def Led.newW (l:List Ex.Ac) (set:List Pw.Mem):List En × Nat:=if (Ex.genW l set).2=0 then ([Led.newE (Ex.genW l set).1 set],0) else ([],(Ex.genW l set).2)
theorem TxsAt.nil (w:World):TxsAt w none []:=⟨Reads.none_,by simp,by simp,by simp⟩
theorem genW_ok {l:List Ex.Ac} {set:List Pw.Mem} (h:(Ex.genW l set).2=0):Pw.okM set=true:=by
 unfold Ex.genW at h
 split at h
 ·cases h
 split at h
 ·rename_i h1; exact absurd h h1
 split at h
 ·cases h
 rename_i h1;simpa using h1
theorem ref20_New (w:World) (l:List Ex.Ac) (hs:∀ x∈l,x.1.length≤9223372036854775807) (A:Option Addr) (c:Nat) (HR:Reads w w.heap.size 3 A l.length (acells l)) (set:List Pw.Mem) (hm:∀ x∈set,x.1.length≤9223372036854775807) (B:Option Addr) (d:Nat) (HS:Reads w w.heap.size 2 B set.length (mcells set)):
  Calls Tryz.prog 36 #[.slice A l.length c,.slice B set.length d] w (LedEnd w (Led.newW l set)):=by
 have HP:Hid (∀ (L:List En) (cd:Nat) (M:List EnM) A' c' w',Led.newW l set=(L,cd)→Below w.heap.size w w'→M.map (·.en)=L→EntsAt w' A' M→M.length≤c'→LedEnd w (Led.newW l set) (.returned (.tuple #[.slice A' M.length c',cd])) w'):=ι (fun L cd M A' c' w' e h1 h2 h3 h4=>by rw [e]; exact ⟨M,A',c',rfl,h1,h2,h3,h4⟩);generalize LedEnd w (Led.newW l set)=P at HP ⊢;have HG:=ι (ref16_Genesis w l hs A c HR set hm B d HS);have hg:=Ex.genW_good l set;have hok:=@genW_ok l set;have HX:Hid (Led.newW l set=if (Ex.genW l set).2=0 then ([Led.newE (Ex.genW l set).1 set],0) else ([],(Ex.genW l set).2)):=ι rfl;generalize Led.newW l set=X at *;generalize Ex.genW l set=g at *;obtain ⟨t,cd⟩:=g;simp only at HG hg hok HX;have HSR:=ι HS;by_cases hc:cd=0;rotate_left
 ·have hc1:((cd:Int) !=0)=true:=by simp; exact hc
  have HE:Hid (X=([],cd)):=ι (by rw [HX.out,if_neg hc]);clear hok HX hg HS HR hs hm hc;go_enter Tryz.func36,Tryz.ntmps36
  go_wp2_with fail
  refine HG.out.mono ?_;rintro e w1 ⟨A1,n1,c1,rfl,hb,_,_⟩;have HB:=ι hb;clear hb;go_wp2_with fail
  exact HP.out [] cd [] none 0 _ HE.out HB.out rfl ⟨Reads.none_,by simp⟩ (Nat.le_refl _)
 subst hc;have hok:=hok rfl;have HE:Hid (X=([Led.newE t set],0)):=ι (by rw [HX.out,if_pos rfl]);have hone:=Led.newE_one hg.1 (by omega) hok;have HTx:=ι (fun W=>ref15_Root W none 0 [] (TxsAt.nil W));have HDg:=ι (fun W (hW:Below w.heap.size w W)=>ref05_Digest W set hm B d ((HS.below hW).more hW.size));have HRt:=ι (fun W A n c (h:IAt W A n c t)=>ref10_Root W t hg.1 (by omega) A c (h.hn ▸ h.hr));have HHd:=ι (fun W=>ref19_Digest W (Led.newH t set) (okH_of hone.ok) none 0 Reads.none_);have HDe:Hid (Led.newH t set=⟨0,0,0,true,[],Trie.sumT t,[],Ex.rootX [],Pw.digM set,Pw.digM set,[]⟩):=ι rfl;have HEq:Hid (Led.newE t set=⟨Led.newH t set,Hd.dig (Led.newH t set),[],[],t,set,set⟩):=ι rfl;unfold TxRootEnd at HTx;have henc:encC (List.map (fun p:TxM=>p.1) [])=0:=rfl;simp only [henc,if_true] at HTx;clear HX hg hok hone HR hs hm HS henc;rw [HDe.out] at HHd HEq;simp only [List.length_nil] at HHd;clear HDe;generalize Hd.dig ⟨0,0,0,true,[],Trie.sumT t,[],Ex.rootX [],Pw.digM set,Pw.digM set,[]⟩=hsum at *;simp only [List.map_nil] at HTx;generalize Ex.rootX []=rx at *;generalize Pw.digM set=dg at *;go_enter Tryz.func36,Tryz.ntmps36
 go_wp2_with fail
 refine HG.out.mono ?_;rintro e w1 ⟨A1,n1,c1,rfl,hb,hI,_⟩;have HB:=ι hb;have HI:=ι (hI rfl).1;clear hb hI HG;go_wp2_with fail
 refine (HTx.out _).mono ?_;rintro e w2 ⟨rfl,hb⟩;have HB2:=ι (HB.out.nxt hb);have HI2:=ι (HI.out.next hb);clear hb HB HI HTx;go_wp2_with fail
 refine (HDg.out _ HB2.out).mono ?_;rintro e w3 ⟨rfl,hb⟩;have HB3:=ι (HB2.out.nxt hb);have HI3:=ι (HI2.out.next hb);clear hb HB2 HI2 HDg;have HRt3:=HRt.out _ _ _ c1 HI3.out;rw [←HI3.out.hn] at HRt3;have HRt4:=ι HRt3;clear HRt HRt3;go_wp2_with fail
 refine HRt4.out.mono ?_;rintro e w4 ⟨rfl,hb⟩;have F4:Hid (Live w w4 []):=ι ⟨HB3.out.nxt hb,by simp,List.Pairwise.nil⟩;have HI4:=ι (HI3.out.next hb);clear hb HB3 HI3 HRt4;generalize Trie.sumT t=stt at *;go_upto_region 7 with fail
 have F5:=Live.ha F4 #[ζ,ζ,ζ,true,ε,stt,ε,rx,dg,dg,ν] 41;have HI5:Hid (IAt (w4.alloc (.cells #[ζ,ζ,ζ,true,ε,stt,ε,rx,dg,dg,ν] 41)) A1 n1 c1 t):=ι (HI4.out.next ((Below.refl _ w4).alloc (Nat.le_refl _) _));generalize World.alloc w4 _=w5 at F5 HI5 ⊢;generalize w4.heap.size=xb at F5 ⊢;clear HI4 F4;have k0:=(F5.out.blk 0 rfl).c11;go_region_held3 (fun w'=>w'.cell? ⟨xb,0,none⟩=some (.int .i64 0)∧w'.cell? ⟨xb,1,none⟩=some (.int .i64 0)∧w'.cell? ⟨xb,2,none⟩=some (.int .i64 0)∧w'.cell? ⟨xb,3,none⟩=some (.bool true)∧w'.cell? ⟨xb,4,none⟩=some (.string ⟨#[]⟩)∧w'.cell? ⟨xb,5,none⟩=some (stt:Value)∧w'.cell? ⟨xb,6,none⟩=some (.string ⟨#[]⟩)∧w'.cell? ⟨xb,7,none⟩=some (rx:Value)∧w'.cell? ⟨xb,8,none⟩=some (dg:Value)∧w'.cell? ⟨xb,9,none⟩=some (dg:Value)∧w'.cell? ⟨xb,10,none⟩=some (.slice none 0 0)) (first|go_keep|(refine ⟨?_,?_,?_,?_,?_,?_,?_,?_,?_,?_,?_⟩<;>assumption)) (first|(go_at_call 74; ((with_reducible refine (HHd.out _).mono ?_); (rintro e w6 ⟨rfl,hb⟩; (first|have HI6:=ι (HI5.out.next hb)|have HI6:=ι (HI5.out.next hb.start)); (first|have F5:=Live.hb F5 hb|have F5:=Live.hbd F5 hb); clear hb; have k0:=(F5.out.blk 0 rfl).c11))))
 all_goals
  go_wp2_with fail
  have F7:=Live.ha F5 #[ζ,ζ,ζ,true,ε,stt,ε,rx,dg,dg,ν,hsum,ν,ν,.slice A1 n1 c1,.slice B set.length d,.slice B set.length d] 46;have hb6:Below w6.heap.size w6 (w6.alloc (.cells #[ζ,ζ,ζ,true,ε,stt,ε,rx,dg,dg,ν,hsum,ν,ν,.slice A1 n1 c1,.slice B set.length d,.slice B set.length d] 46)):=(Below.refl _ w6).alloc (Nat.le_refl _) _;have hr:=reads_of_blk (size:=17) (n:=1) (F7.out.blk 0 rfl) rfl;refine HP.out _ 0 [⟨Led.newE t set,[],n1,none,0,none,0,none,0,A1,c1,B,d,B,d⟩] _ 1 _ HE.out F7.out.b rfl ⟨?_,?_⟩ (Nat.le_refl _)
  ·simp only [ecells,ecell,List.flatMap_cons,List.flatMap_nil,List.append_nil,HEq.out];exact hr
  ·intro e he;rw [List.mem_singleton] at he;subst he;rw [HEq.out];exact ⟨Reads.none_,TxsAt.nil _,rfl,Reads.none_,HI6.out.next hb6,(HSR.out.below F7.out.b).more F7.out.b.size,(HSR.out.below F7.out.b).more F7.out.b.size⟩
theorem Led.nextE_eq (L:List En) (p:En) (view:Int) (txs:List Ex.Tx) (t:Trie.T) (D:List Ex.Rc) (M:List Pw.Mem) (EP:Int) (LB:Bool) (stt RR TR:List UInt8) (N:List Pw.Mem) (NX:List UInt8) (S:List (List UInt8))
  (h1:(if p.hd.last then p.hd.epo+1 else p.hd.epo)=EP) (h2:decide (0<M.length)=LB) (h3:Trie.sumT t=stt) (h4:Led.rootR D=RR) (h5:Ex.rootX txs=TR) (h6:(if M.isEmpty then p.nxt else M)=N)
  (h7:(if M.isEmpty then p.hd.nxt else Pw.digM M)=NX) (h8:(Hd.linksH (p.hd.hgt+1)).map (Led.sumAt L)=S):
  Led.nextE L p view txs t D M=⟨⟨p.hd.hgt+1,EP,view,LB,p.sum,stt,RR,TR,p.hd.nxt,NX,S⟩,Hd.dig ⟨p.hd.hgt+1,EP,view,LB,p.sum,stt,RR,TR,p.hd.nxt,NX,S⟩,txs,D,t,p.nxt,N⟩:=by
 have hb:(!M.isEmpty)=LB:=by rw [←h2]; cases M<;>simp
 unfold Led.nextE Led.nextH;rw [hb,h1,h3,h4,h5,h6,h7,h8]
theorem led_int_cell {w:World} {B:Nat} {A:Option Addr} {l:List Nat} (h:Reads w B 1 A l.length (ints l)) {i:Nat} (hi:i<l.length):
  ∃ ad off,A=some ⟨ad,off,none⟩∧ad<B∧∀ w',Below B w w'→w'.cell? ⟨ad,off+i,none⟩=some (.int .i64 (l[i]:Int)):=by
 obtain ⟨ad,off,rfl,hbl,hcell⟩:=h.form (by omega) (by omega);refine ⟨ad,off,rfl,hbl,fun w' hb=> ?_⟩;have q:=hcell i (by rw [ints_length]; exact hi);simp only [ints,List.getElem_map] at q;exact (hb.cell (p:=⟨ad,off+i,none⟩) hbl).trans q
theorem h10_get {H10:List Value} (h:H10.length=10) (v:Value):(H10++ [v]).toArray[10]?=some v:=by
 rw [List.getElem?_toArray,List.getElem?_append_right (by omega),h]; rfl
theorem h10_set {H10:List Value} (h:H10.length=10) (v u:Value):(H10++ [v]).toArray.setIfInBounds 10 u=(H10++ [u]).toArray:=by
 rw [List.setIfInBounds_toArray,List.set_append_right _ _ (by omega),h]; rfl
structure LoopI (w w3 W:World) (L:List (Nat × Nat × Array Value)) (hb:Nat) (H10:List Value) (S:List (List UInt8)) (SA:Option Addr) (SC:Nat):Prop where
 own:W.ownsRow w3.heap.size 9 1 (.slice SA S.length SC) S.length (strv S)
 f3:Live w3 W [(hb,41,(H10++ [Value.slice SA S.length SC]).toArray)]
 f:Live w W ((hb,41,(H10++ [Value.slice SA S.length SC]).toArray)::L)
theorem z_18 {P:Prop} (h:P:=by
 try go_frame
 refine rd1 11 rfl (fun K hK=> ?_);refine step_append_row Wd 9 [sx] rfl _ _ 25 rfl w3.heap.size 1 16 _ info_str Tryz.underlying25 rfl (by decide) (.slice SA S.length SC) S.length (strv S) rfl own 1 1 rfl rfl (by simp [Value.oneCell']) (by simp only [maxLen]; omega) (by omega) w3.heap.size w3 FX.out.b (Nat.le_refl _) FX.out.b.size ?_;intro v4 w4 own4 hb4 hg4 _ _;obtain ⟨A4,c4,rfl,_,_,_⟩:=own_form own4;have F4:=Live.hp F own HB3.out.size (by intro y hy; rcases List.mem_cons.1 hy with rfl|hy; (· show (9:Nat)≠41; decide); (· exact HLL.out.1 y hy)) hg4;have FX4:=Live.hp FX own (Nat.le_refl _) (by intro y hy; rw [List.mem_singleton] at hy; subst hy; show (9:Nat)≠41; decide) hg4;have HOL4:=HOL.kept hg4 (own_types_ne HOL own (by decide));refine hK.out _ _ ⟨R0.out _ HOL4,R1.out _ F4.out.b⟩ (fun hHeld=> ?_);clear hK K;try go_frame
 refine tk 12 131 rfl ?_;try go_frame
 refine rd1 13 rfl (fun K hK=> ?_);have kh4:=(F4.out.blk 0 rfl).cell 10;rw [h10_get HLL.out.2] at kh4;have fz4:=F4.out.frozen 0 10 rfl;go_simp
 have F5:=Live.hs F4 0 10 (.slice A4 (S.length+1) c4) rfl;have FX5:=Live.hs FX4 0 10 (.slice A4 (S.length+1) c4) rfl;have hgr:=grown_cell (World.grownBy.refl w4 (some hb)) 10 (.slice A4 (S.length+1) c4);have own5:=own4.kept hgr (.inr (own_blk_ne own4 (F4.out.blk 0 rfl) (by decide)));have HOL5:=HOL4.kept hgr (.inr (own_blk_ne HOL4 (F4.out.blk 0 rfl) (by decide)));rw [h10_set HLL.out.2] at F5 FX5;simp only [List.set_cons_zero] at F5 FX5;generalize w4.setCell ⟨hb,10,none⟩ (.slice A4 (S.length+1) c4)=w5 at F5 FX5 own5 HOL5 ⊢;refine hK.out _ _ ⟨R0.out _ HOL5,R1.out _ F5.out.b⟩ (fun hHeld=> ?_);clear hK K;try go_frame
 refine wpAnyH_done (by kernel_rfl) ?_ _;refine NoPanic.normal ?_;have HS2:Hid ((S++ [sx]).length=S.length+1):=ι (by simp);have LI:Hid (LoopI w w3 w5 L hb H10 (S++ [sx]) A4 c4):=ι ⟨by rw [HS2.out,strv_snoc]; exact own5,by rw [HS2.out]; exact FX5.out,by rw [HS2.out]; exact F5.out⟩;have HOL6:=ι HOL5;clear own5 F5 FX5 HOL5 HOL4 F4 FX4 own4 hgr kh4 fz4 hb4 hg4 hHeld HOL own F FX;go_wp2_with fail
 refine Handed.intro (lk.length - (i+1)) ?_ (hJ1 _ _ _ (fun Φ hΦ=>hΦ (i+1) (S++ [sx]) (A4) (c4) ?_))
 ·have:=HI.out.1; omega
 exact ⟨by have:=HI.out.1; omega,HS1.out,by rw [HS2.out,HI.out.2],HOL6.out,LI.out⟩):P:=h
theorem make_loop (w w3 W0:World) (h3:Below w.heap.size w w3) (l:List EnM) (ad off c:Nat) (HE:EntsAt w (some ⟨ad,off,none⟩) l) (lk:List Nat) (hlt:∀ x∈lk,x<l.length) (h22:lk.length≤22) (LA:Option Addr) (lc:Nat) (bs:Nat) (hLO:W0.ownsRow bs 3 1 (.slice LA lk.length lc) lk.length (ints lk))
  (L:List (Nat × Nat × Array Value)) (hL:∀ x∈L,9≠x.2.1) (hb:Nat) (H10:List Value) (h10:H10.length=10) (hI0:LoopI w w3 W0 L hb H10 [] none 0)
  (v2 v6 v7 v8 v9 v10 v12:Value) (Q:Exit→Act→World→Prop)
  (hQ:∀ ⦃s1 s3 s4 s5 s0 s2 s6 s7 s8 s9 a0 a2 a3 a4 a5 a6 a7 a8 a9 b0 b1 b2 b3 b4 b5 b6 b7 b8 b9 c0 c1 c2 c3 c5 c6 c7 c8 c9 d0 d1 d2 d3 d4 d5 d6 d7 d8 d9 e0 e3 e4 e5 e6 e7 e8 e9 f0 f1 f2 f4 f5 f6 f7 f8 f9 g0 g1 g2 g3 g4 g5 g6 g7 g8 g9 h0 h4 h5 h6 h7 h8 h9 i0 i1 i2 i3 i4 i5 i6 i7 i8 i9 j0 j1 j2 j3 j4 j5 j6 j7 j8 j9 k0 k2 k3 k5 k6 k7 k8 k9 l0 l1 l2 l3 l4 l5 l6 l7 l8 l9 m0 m1 m2 m3 m4 m5 m6 m7 m8 m9 n0 n1:Value⦄ (W2:World) (S:List (List UInt8)) (SA:Option Addr) (SC:Nat),S=lk.map (Led.sumAt (l.map (·.en)))→LoopI w w3 W2 L hb H10 S SA SC→Q (.exit 0) {tmps:=#[.slice (some ⟨ad,off,none⟩) l.length c,s1,v2,s3,s4,s5,v6,v7,v8,v9,v10,.pointer (some ⟨hb,0,none⟩),v12,.slice LA lk.length lc,.int .i64 (lk.length:Int),s0,s2,s6,s7,s8,s9,a0,a2,a3,a4,a5,a6,a7,a8,a9,b0,b1,b2,b3,b4,b5,b6,b7,b8,b9,c0,c1,c2,c3,c5,c6,c7,c8,c9,d0,d1,d2,d3,d4,d5,d6,d7,d8,d9,e0,e3,e4,e5,e6,e7,e8,e9,f0,f1,f2,f4,f5,f6,f7,f8,f9,g0,g1,g2,g3,g4,g5,g6,g7,g8,g9,h0,h4,h5,h6,h7,h8,h9,i0,i1,i2,i3,i4,i5,i6,i7,i8,i9,j0,j1,j2,j3,j4,j5,j6,j7,j8,j9,k0,k2,k3,.bool false,k5,k6,k7,k8,k9,l0,l1,l2,l3,l4,l5,l6,l7,l8,l9,m0,m1,m2,m3,m4,m5,m6,m7,m8,m9,n0,n1],defers:= []} W2)
  (s1 s3 s4 s5 s0 s2 s6 s7 s8 s9 a0 a2 a3 a4 a5 a6 a7 a8 a9 b0 b1 b2 b3 b4 b5 b6 b7 b8 b9 c0 c1 c2 c3 c5 c6 c7 c8 c9 d0 d1 d2 d3 d4 d5 d6 d7 d8 d9 e0 e3 e4 e5 e6 e7 e8 e9 f0 f1 f2 f4 f5 f6 f7 f8 f9 g0 g1 g2 g3 g4 g5 g6 g7 g8 g9 h0 h4 h5 h6 h7 h8 h9 i0 i1 i2 i3 i4 i5 i6 i7 i8 i9 j0 j1 j2 j3 j4 j5 j6 j7 j8 j9 k0 k2 k3 k4 k5 k6 k7 k8 k9 l0 l1 l2 l3 l4 l5 l6 l7 l8 l9 m0 m1 m2 m3 m4 m5 m6 m7 m8 m9 n0 n1:Value):
  Code.wp Tryz.prog (.loop (loopAt Tryz.f75 0)) Q {tmps:=#[.slice (some ⟨ad,off,none⟩) l.length c,s1,v2,s3,s4,s5,v6,v7,v8,v9,v10,.pointer (some ⟨hb,0,none⟩),v12,.slice LA lk.length lc,.int .i64 0,s0,s2,s6,s7,s8,s9,a0,a2,a3,a4,a5,a6,a7,a8,a9,b0,b1,b2,b3,b4,b5,b6,b7,b8,b9,c0,c1,c2,c3,c5,c6,c7,c8,c9,d0,d1,d2,d3,d4,d5,d6,d7,d8,d9,e0,e3,e4,e5,e6,e7,e8,e9,f0,f1,f2,f4,f5,f6,f7,f8,f9,g0,g1,g2,g3,g4,g5,g6,g7,g8,g9,h0,h4,h5,h6,h7,h8,h9,i0,i1,i2,i3,i4,i5,i6,i7,i8,i9,j0,j1,j2,j3,j4,j5,j6,j7,j8,j9,k0,k2,k3,k4,k5,k6,k7,k8,k9,l0,l1,l2,l3,l4,l5,l6,l7,l8,l9,m0,m1,m2,m3,m4,m5,m6,m7,m8,m9,n0,n1],defers:= []} W0:=by
 have HQ:=ι hQ;have HEE:=ι HE;have HLt:=ι hlt;have H22:=ι h22;have HLL:=ι (And.intro hL h10);have HI0:=ι (And.intro hLO hI0);have HB3:=ι h3;clear hQ HE hlt h22 hL h10 hLO hI0 h3;refine wp_loop_ghost_k (fun k a wr=>∀ Φ:Act→Prop,(∀ ⦃s1 s3 s4 s5 s0 s2 s6 s7 s8 s9 a0 a2 a3 a4 a5 a6 a7 a8 a9 b0 b1 b2 b3 b4 b5 b6 b7 b8 b9 c0 c1 c2 c3 c5 c6 c7 c8 c9 d0 d1 d2 d3 d4 d5 d6 d7 d8 d9 e0 e3 e4 e5 e6 e7 e8 e9 f0 f1 f2 f4 f5 f6 f7 f8 f9 g0 g1 g2 g3 g4 g5 g6 g7 g8 g9 h0 h4 h5 h6 h7 h8 h9 i0 i1 i2 i3 i4 i5 i6 i7 i8 i9 j0 j1 j2 j3 j4 j5 j6 j7 j8 j9 k0 k2 k3 k4 k5 k6 k7 k8 k9 l0 l1 l2 l3 l4 l5 l6 l7 l8 l9 m0 m1 m2 m3 m4 m5 m6 m7 m8 m9 n0 n1:Value⦄ (i:Nat) (S:List (List UInt8)) (SA:Option Addr) (SC:Nat),(i+k=lk.length∧S=(lk.take i).map (Led.sumAt (l.map (·.en)))∧S.length=i∧wr.ownsRow bs 3 1 (.slice LA lk.length lc) lk.length (ints lk)∧LoopI w w3 wr L hb H10 S SA SC)→Φ {tmps:=#[.slice (some ⟨ad,off,none⟩) l.length c,s1,v2,s3,s4,s5,v6,v7,v8,v9,v10,.pointer (some ⟨hb,0,none⟩),v12,.slice LA lk.length lc,.int .i64 (i:Int),s0,s2,s6,s7,s8,s9,a0,a2,a3,a4,a5,a6,a7,a8,a9,b0,b1,b2,b3,b4,b5,b6,b7,b8,b9,c0,c1,c2,c3,c5,c6,c7,c8,c9,d0,d1,d2,d3,d4,d5,d6,d7,d8,d9,e0,e3,e4,e5,e6,e7,e8,e9,f0,f1,f2,f4,f5,f6,f7,f8,f9,g0,g1,g2,g3,g4,g5,g6,g7,g8,g9,h0,h4,h5,h6,h7,h8,h9,i0,i1,i2,i3,i4,i5,i6,i7,i8,i9,j0,j1,j2,j3,j4,j5,j6,j7,j8,j9,k0,k2,k3,k4,k5,k6,k7,k8,k9,l0,l1,l2,l3,l4,l5,l6,l7,l8,l9,m0,m1,m2,m3,m4,m5,m6,m7,m8,m9,n0,n1],defers:= []})→Φ a) (lk.length) ?_ ?_
 ·refine fun Φ hΦ=>hΦ (0) ([]) (none) (0) ?_;exact ⟨by omega,rfl,rfl,HI0.out.1,HI0.out.2⟩
 ·intro k1 a1 wr1 hI1 J1 K1 hJ1 hK1;refine hI1 (fun a=>Code.wp _ _ _ a _) ?_;clear hI1 a1;iterate 133 (intro _)
  intro i S SA SC hrel
  show Code.wp _ _ _ _ _
  conv=>arg 2; whnf
  obtain ⟨h1,h2,h3,hLO,hI⟩:=hrel;by_cases hi:i<lk.length
  ·have hRL:=Reads.of_own hLO;obtain ⟨la,lo,rfl,hbl,hcell⟩:=led_int_cell hRL hi;have r0:=hcell _ (Below.refl _ _);have hi1:(i:Int)<lk.length:=by omega
   have hi0:(0:Int)≤i:=by omega
   have hwi:IntKind.i64.wrap ((i:Int)+1)=(i:Int)+1:=IntWalk.i64_in _ (by have:=H22.out; omega);have hxl:=HLt.out _ (List.getElem_mem hi);have hsx:Led.sumAt (l.map (·.en)) lk[i]=(l[lk[i]]'hxl).en.sum:=by rw [Led.sumAt_of (by rw [List.length_map]; exact hxl),List.getElem_map]
   obtain ⟨sx,hsxe⟩:∃ sx,(l[lk[i]]'hxl).en.sum=sx:=⟨_,rfl⟩
   rw [hsxe] at hsx;have HS1:Hid (S++ [sx]=(lk.take (i+1)).map (Led.sumAt (l.map (·.en)))):=ι (by
    rw [List.take_succ_eq_append_getElem hi,List.map_append,h2,←hsx]; rfl)
   obtain ⟨ad2,off2,hA,hbl2,hcell2⟩:=ent_cells HEE.out.r hxl;injection hA with hA
   injection hA with ha1 ha2 _
   subst ha1;subst ha2;have r1:∀ W,Below w.heap.size w W→W.cell? ⟨ad,off+lk[i]*17+11,none⟩=some (sx:Value):=fun W hW=>by rw [←hsxe]; exact hcell2 W hW 11 _ rfl
   have R0:Hid (∀ W:World,W.ownsRow bs 3 1 (.slice (some ⟨la,lo,none⟩) lk.length lc) lk.length (ints lk)→W.cell? ⟨la,lo+i,none⟩=some (.int .i64 (lk[i]:Int))):=ι (fun W hW=>by
    obtain ⟨a',o',e',_,h'⟩:=led_int_cell (Reads.of_own hW) hi;injection e' with e'
    injection e' with e1 e2 _
    subst e1;subst e2;exact h' _ (Below.refl _ _))
   have hx1:(lk[i]:Int)<l.length:=by omega
   have hx0:(0:Int)≤lk[i]:=by omega
   have HI:=ι (And.intro h1 h3);have HOL:=ι hLO;have F:=ι hI.f;have FX:=ι hI.f3;have own:=hI.own;have hS22:S.length<22:=by have:=H22.out; omega
   clear h1 h2 h3 hLO hI hRL hcell hcell2 hbl hbl2 hsx hsxe hxl;generalize lk[i]=x at *;have R1:=ι r1;clear r1;have kh:=(F.out.blk 0 rfl).cell 10;rw [h10_get HLL.out.2] at kh;have r1:=R1.out _ F.out.b;go_upto_region 22 with fail
   refine wp_region_noPanic ?_;refine wp_region_held_drew (S:=fun w'=>w'.cell? ⟨la,lo+i,none⟩=some (.int .i64 (x:Int))∧w'.cell? ⟨ad,off+x*17+11,none⟩=some (sx:Value)) (by kernel_rfl) ⟨r0,r1⟩ (fun hHeld=> ?_);have F:=live_drew F;have FX:=live_drew FX;have own:=own.drew;have HOL:=HOL.out.drew;generalize wr1.drew=Wd at F FX own HOL hHeld ⊢;refine tk 0 119 rfl ?_;try go_frame
   refine tk 2 121 rfl ?_;try go_frame
   refine tk 3 122 rfl ?_;try go_frame
   refine tk 4 123 rfl ?_;try go_frame
   refine tk 5 124 rfl ?_;try go_frame
   refine tk 6 125 rfl ?_;try go_frame
   refine tk 7 126 rfl ?_;try go_frame
   refine tk 8 127 rfl ?_;try go_frame
   refine tk 9 128 rfl ?_;try go_frame
   refine rd2 1 10 rfl rfl (fun K hK=> ?_) (fun K hK=> ?_)
   ·skip
    have khl:=(F.out.blk 0 rfl).cell 10;rw [h10_get HLL.out.2] at khl;go_simp
    refine hK.out _ _ hHeld (fun hHeld=> ?_);clear hK K khl;try go_frame
    refine rd1 10 rfl (fun K hK=> ?_);go_simp
    have Fa:=Live.ha F #[sx] 9;have hHa:=And.intro (R0.out _ (HOL.alloc (.cells #[sx] 9))) (R1.out _ Fa.out.b);refine hK.out _ _ hHa (fun hHeld=> ?_);clear hK K;exact z_18
   ·skip
    go_simp
    have Fa:=Live.ha F #[sx] 9;have hHa:=And.intro (R0.out _ (HOL.alloc (.cells #[sx] 9))) (R1.out _ Fa.out.b);refine hK.out _ _ hHa (fun hHeld=> ?_);clear hK K;try go_frame
    refine rd1 1 rfl (fun K hK=> ?_);have khl:=(Fa.out.blk 1 rfl).cell 10;rw [h10_get HLL.out.2] at khl;go_simp
    refine hK.out _ _ hHeld (fun hHeld=> ?_);clear hK K khl;exact z_18
  ·have hi1:((i:Int)<lk.length)=False:=by simp; omega
   obtain rfl:i=lk.length:=by omega
   have HE2:Hid (S=lk.map (Led.sumAt (l.map (·.en)))):=ι (by rw [h2,List.take_of_length_le (Nat.le_refl _)]);have HI:=ι hI;clear h1 h2 h3 hLO hI hi;go_wp2_with fail
   exact HQ.out _ S SA SC HE2.out HI.out
end
end Go.Proofs.YtdkiloganbhfkaaGreatDoor