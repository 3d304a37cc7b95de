import Derived.Test.YtomnlhbioijfhaaGreatDoorJ27
import Derived.Test.YtomnlhbioijfhaaGreatDoorJ23
import Derived.Test.YtomnlhbioijfhaaGreatDoorJ19
import Derived.Test.YtomnlhbioijfhaaGreatDoorJ21
set_option linter.unusedSimpArgs false
set_option linter.unusedVariables false
namespace Go.Proofs.YtomnlhbioijfhaaGreatDoor
open Go.RowKit Go.Instr
attribute [local go_sem] ba_get ByteArray.mk_append_mk
attribute [local go_sem ↓] Go.wp_at_zero Go.wp_at_succ
abbrev TxM:=Ex.Tx × Option Addr × Nat
def xcell (p : TxM) : List Value := [.int .i64 p.1.kind,.string ⟨p.1.frm.toArray⟩,.int .i64 p.1.seq,.string ⟨p.1.dst.toArray⟩,.int .i64 p.1.amt,.string ⟨p.1.key.toArray⟩,.string ⟨p.1.val.toArray⟩,.slice p.2.1 p.1.mem.length p.2.2]
abbrev xcells (l : List TxM) : List Value:=l.flatMap xcell
theorem xcell_len (p : TxM) : (xcell p).length = 8:=rfl
structure OkT (x : Ex.Tx) : Prop where
 f : x.frm.length ≤ 9223372036854775807
 d : x.dst.length ≤ 9223372036854775807
 k : x.key.length ≤ 9223372036854775807
 v : x.val.length ≤ 9223372036854775807
 m : ∀ y ∈ x.mem,y.1.length ≤ 9223372036854775807
structure TxsAt (w : World) (A : Option Addr) (l : List TxM) : Prop where
 r : Reads w w.heap.size 8 A l.length (xcells l)
 m : ∀ p ∈ l,Reads w w.heap.size 2 p.2.1 p.1.mem.length (mcells p.1.mem)
 t : ∀ p ∈ l,OkT p.1
 n : l.length ≤ 9223372036854775807
theorem TxsAt.next {w w' : World} {A : Option Addr} {l : List TxM} (h : TxsAt w A l) (hb : Below w.heap.size w w') : TxsAt w' A l :=
 ⟨(h.r.below hb).more hb.size,fun p hp=>((h.m p hp).below hb).more hb.size,h.t,h.n⟩
theorem tx_cells {w : World} {B : Nat} {A : Option Addr} {l : List TxM} (h : Reads w B 8 A l.length (xcells l)) {i : Nat} (hi : i < l.length) :
  ∃ ad off,A = some ⟨ad,off,none⟩ ∧ ad < B ∧ ∀ W,Below B w W →
   W.cell? ⟨ad,off + i * 8,none⟩ = some (.int .i64 l[i].1.kind) ∧ W.cell? ⟨ad,off + i * 8 + 1,none⟩ = some (.string ⟨l[i].1.frm.toArray⟩) ∧ W.cell? ⟨ad,off + i * 8 + 2,none⟩ = some (.int .i64 l[i].1.seq) ∧
   W.cell? ⟨ad,off + i * 8 + 3,none⟩ = some (.string ⟨l[i].1.dst.toArray⟩) ∧ W.cell? ⟨ad,off + i * 8 + 4,none⟩ = some (.int .i64 l[i].1.amt) ∧ W.cell? ⟨ad,off + i * 8 + 5,none⟩ = some (.string ⟨l[i].1.key.toArray⟩) ∧
   W.cell? ⟨ad,off + i * 8 + 6,none⟩ = some (.string ⟨l[i].1.val.toArray⟩) ∧ W.cell? ⟨ad,off + i * 8 + 7,none⟩ = some (.slice l[i].2.1 l[i].1.mem.length l[i].2.2):=by
 obtain ⟨ad,off,h1,h2,h3⟩:=flat_cells xcell_len (by decide) h hi
 exact ⟨ad,off,h1,h2,fun W hW=>⟨h3 W hW 0 _ rfl,h3 W hW 1 _ rfl,h3 W hW 2 _ rfl,h3 W hW 3 _ rfl,h3 W hW 4 _ rfl,h3 W hW 5 _ rfl,h3 W hW 6 _ rfl,h3 W hW 7 _ rfl⟩⟩
def rcell (r : Ex.Rc) : List Value := [.int .i64 r.1,.string ⟨r.2.1.toArray⟩,.int .i64 r.2.2]
abbrev rcs (l : List Ex.Rc) : List Value:=l.flatMap rcell
theorem rcell_len (m : Ex.Rc) : (rcell m).length = 3:=rfl
theorem mcells_one (l : List Pw.Mem) : ∀ u ∈ mcells l,u.oneCell' = true:=by
 intro u hu
 rw [List.mem_flatMap] at hu
 obtain ⟨m,_,hu⟩:=hu
 simp only [mcell,List.mem_cons,List.not_mem_nil,or_false] at hu
 rcases hu with rfl | rfl <;> rfl
theorem rcs_snoc (l : List Ex.Rc) (r : Ex.Rc) : rcs l ++ [.int .i64 r.1,.string ⟨r.2.1.toArray⟩,.int .i64 r.2.2] = rcs (l ++ [r]):=by simp [rcs,rcell]
theorem info_rc : (Tryz.prog.info? 136).map (fun i=>(i.zero,i.size,i.bytes)) = some (some (.agg #[.int .i64 0,.string ⟨#[]⟩,.int .i64 0]),3,32):=by kernel_rfl
theorem info_mem : (Tryz.prog.info? 95).map (fun i=>(i.zero,i.size,i.bytes)) = some (some (.agg #[.string ⟨#[]⟩,.int .i64 0]),2,24):=by kernel_rfl
theorem own_types_ne {w : World} {base base' : Nat} {e e' : TypeId} {size size' n n' : Nat} {v v' : Value} {xs xs' : List Value} (h : w.ownsRow base e size v n xs) (h' : w.ownsRow base' e' size' v' n' xs') (hne : e ≠ e') : v.ownBlock = none ∨ v.ownBlock ≠ v'.ownBlock:=by
 rcases h'.2 with ⟨rfl,_⟩ | ⟨g,cap,cur,rfl,_,hh,_⟩
 ·cases hv : v.ownBlock with
  | none=>exact .inl rfl
  | some k=>exact .inr (by simp [Value.ownBlock])
 ·exact .inr (own_blk_ne (cs:=cur) h hh hne)
theorem own_blk {w : World} {base : Nat} {e : TypeId} {size n : Nat} {v : Value} {xs : List Value} (h : w.ownsRow base e size v n xs) : ∀ k,v.ownBlock = some k → ∃ cs,Blk w k e cs:=by
 intro k hk
 rcases h.2 with ⟨rfl,_⟩ | ⟨g,cap,cur,rfl,_,hh,_⟩
 ·cases hk
 ·injection hk with hk
  subst hk
  exact ⟨_,hh⟩
def allX (t : Trie.T) (l : List Ex.Tx) : (Trie.T × List Ex.Rc × List Pw.Mem) × Nat :=
 if 8 < l.length then ((.nil, [], []),2) else if l.all Ex.fineX = false then ((.nil, [], []),150) else (Ex.allGo t l [],0)
def AllEnd (w : World) (r : (Trie.T × List Ex.Rc × List Pw.Mem) × Nat) (e : Ending) (w' : World) : Prop :=
 ∃ v A c B d,e = .returned (.tuple #[v,.slice A r.1.2.1.length c,.slice B r.1.2.2.length d,.int .i64 (r.2 : Int)]) ∧ Below w.heap.size w w' ∧ (r.2 = 0 → TrieP w' r.1.1 v) ∧ (r.2 ≠ 0 → v = .pointer none) ∧
  w'.ownsRow w.heap.size 136 3 (.slice A r.1.2.1.length c) r.1.2.1.length (rcs r.1.2.1) ∧ w'.ownsRow w.heap.size 95 2 (.slice B r.1.2.2.length d) r.1.2.2.length (mcells r.1.2.2)
theorem all_take {l : List TxM} {i : Nat} (hi : i < l.length) (h : (l.take i).all (fun p=>Ex.fineX p.1) = true) (hx : Ex.fineX l[i].1 = true) : (l.take (i + 1)).all (fun p=>Ex.fineX p.1) = true:=by
 rw [List.take_succ_eq_append_getElem hi,List.all_append,h]
 simp [hx]
set_option maxRecDepth 100000 in
set_option maxHeartbeats 4000000 in
theorem exec_All (w : World) (t : Trie.T) (v : Value) (h : TrieP w t v) (hcn : Trie.count t ≤ 900) (hT : Tbl w) (l : List TxM) (A : Option Addr) (c : Nat) (HL : TxsAt w A l) :
  Calls Tryz.prog 24 #[v,.slice A l.length c] w (AllEnd w (allX t (l.map (·.1)))):=by
 have HPe : Hid (∀ (cd : Nat) w',allX t (l.map (·.1)) = ((.nil, [], []),cd) → cd ≠ 0 → Below w.heap.size w w' → AllEnd w (allX t (l.map (·.1))) (.returned (.tuple #[.pointer none,.slice none 0 0,.slice none 0 0,.int .i64 (cd : Int)])) w'):=Lib.hid (fun cd w' e hc hb=>by
  rw [e]; exact ⟨_,none,0,none,0,rfl,hb,fun h=>absurd h hc,fun _=>rfl,World.ownsRow_nil _ _ _ _,World.ownsRow_nil _ _ _ _⟩)
 have HPo : Hid (∀ t' D M v A c B d w',allX t (l.map (·.1)) = ((t',D,M),0) → Below w.heap.size w w' → TrieP w' t' v → w'.ownsRow w.heap.size 136 3 (.slice A D.length c) D.length (rcs D) → w'.ownsRow w.heap.size 95 2 (.slice B M.length d) M.length (mcells M) → AllEnd w (allX t (l.map (·.1))) (.returned (.tuple #[v,.slice A D.length c,.slice B M.length d,.int .i64 0])) w'):=Lib.hid (fun t' D M v A c B d w' e hb h1 h2 h3=>by
  rw [e]; exact ⟨v,A,c,B,d,rfl,hb,fun _=>h1,fun h=>absurd rfl h,h2,h3⟩)
 generalize AllEnd w (allX t (l.map (·.1))) = P at HPe HPo ⊢
 have HX : Hid (allX t (l.map (·.1)) = if 8 < l.length then ((.nil, [], []),2) else if (l.all fun p=>Ex.fineX p.1) = false then ((.nil, [], []),150) else (Ex.allGo t (l.map (·.1)) [],0)):=Lib.hid (by unfold allX; rw [List.length_map,List.all_map]; rfl)
 generalize allX t (l.map (·.1)) = X at *
 have HTb:=Lib.hid hT
 by_cases h8 : 8 < l.length
 ·have h8' : (8 : Int) < l.length:=by omega
  have HE : Hid (X = ((.nil, [], []),2)):=Lib.hid (by rw [HX.out,if_pos h8])
  clear HX h8 HL hT h
  go_enter Tryz.func24,Tryz.ntmps24
  go_wp2
  refine bodyPost_ret (v:=.tuple #[.pointer none,.slice none 0 0,.slice none 0 0,.int .i64 ((2 : Nat) : Int)]) (by simp [results,Tryz.results24,go_sem]) rfl ?_
  exact HPe.out 2 _ HE.out (by decide) (Below.refl _ _)
 have h8' : ((8 : Int) < l.length) = False:=by simp; omega
 have HX:=Lib.hid (HX.out.trans (if_neg h8))
 have HL8:=Lib.hid (Nat.le_of_not_lt h8)
 have HLL:=Lib.hid HL
 have HTr:=Lib.hid h
 have HCn:=Lib.hid hcn
 obtain ⟨_,vb,vx,rfl,_⟩:=id h
 clear HL hT h8 h hcn
 go_enter Tryz.func24,Tryz.ntmps24
 go_wp2_with fail
 refine wp_loop_ghost_k (fun k a wr => ∀ Φ : Act → Prop,(∀ (s2 s3 s4 s7 s8 s9 s10 s11 s12 s13 s14 s15 s16 s20 s21 s22 s23 s24 s25 s26 s27 s28 s29 s30 s31 s32 s33 s34 s35 s36 s37 s38 s39 s40 s41 s42 s43 s44 s45 s46 s47 s48 s49 s50 s51 s52 s53 s54 s55 s56 s57 s58 s59 s60 s61 : Value) (i : Nat),(i + k = l.length ∧ (l.take i).all (fun p=>Ex.fineX p.1) = true ∧ Below w.heap.size w wr) → Φ { tmps:=#[.pointer (some ⟨vb,0,none⟩),.slice A l.length c,s2,s3,s4,.slice none 0 0,.slice none 0 0,s7,s8,s9,s10,s11,s12,s13,s14,s15,s16,.slice A l.length c,.int .i64 l.length,.int .i64 (i : Int),s20,s21,s22,s23,s24,s25,s26,s27,s28,s29,s30,s31,s32,s33,s34,s35,s36,s37,s38,s39,s40,s41,s42,s43,s44,s45,s46,s47,s48,s49,s50,s51,s52,s53,s54,s55,s56,s57,s58,s59,s60,s61],defers := [] }) → Φ a) (l.length) ?_ ?_
 ·refine fun Φ hΦ=>hΦ _ _ _ _ _ _ _ _ _ _ _ _ _ _ _ _ _ _ _ _ _ _ _ _ _ _ _ _ _ _ _ _ _ _ _ _ _ _ _ _ _ _ _ _ _ _ _ _ _ _ _ _ _ _ _ (0) ?_
  exact ⟨by omega,rfl,Below.refl _ _⟩
 ·intro k1 a1 wr1 hI1 J1 K1 hJ1 hK1
  refine hI1 (fun a=>Code.wp _ _ _ a _) ?_
  clear hI1 a1
  intro s0 s1 s2 s3 s4 s5 s6 s7 s8 s9 s10 s11 s12 s13 s14 s15 s16 s17 s18 s19 s20 s21 s22 s23 s24 s25 s26 s27 s28 s29 s30 s31 s32 s33 s34 s35 s36 s37 s38 s39 s40 s41 s42 s43 s44 s45 s46 s47 s48 s49 s50 s51 s52 s53 s54 i hrel
  show Code.wp _ _ _ _ _
  obtain ⟨h1,h2,hb⟩:=hrel
  by_cases hi : i < l.length
  ·have HI:=Lib.hid (And.intro h1 (And.intro h2 hb))
   have HLi:=Lib.hid (HLL.out.next hb)
   obtain ⟨ad,off,rfl,hbl,hcell⟩:=tx_cells HLi.out.r hi
   obtain ⟨r0,r1,r2,r3,r4,r5,r6,r7⟩:=hcell _ (Below.refl _ _)
   have hi1 : (i : Int) < l.length:=by omega
   have hi0 : (0 : Int) ≤ i:=by omega
   have hi8 : (i : Int) < 8:=by have:=HL8.out; omega
   have ht:=HLi.out.t _ (List.getElem_mem hi)
   have hm:=HLi.out.m _ (List.getElem_mem hi)
   have HStep:=Lib.hid (all_take hi h2)
   have HNo : Hid (Ex.fineX l[i].1 = false → (l.all fun p=>Ex.fineX p.1) = false):=Lib.hid (fun hx=>by
    rw [List.all_eq_false]; exact ⟨_,List.getElem_mem hi,by rw [hx]; decide⟩)
   clear h1 h2 hb hcell hbl
   generalize l[i] = p at *
   obtain ⟨⟨kd,fr,sq,dt,am,ky,vl,mm⟩,mA,mc⟩:=p
   simp only at r0 r1 r2 r3 r4 r5 r6 r7 HStep HNo hm
   obtain ⟨o1,o2,o3,o4,o5⟩:=ht
   simp only at o1 o2 o3 o4 o5
   have HCk:=Lib.hid (fun W (hW : Below wr1.heap.size wr1 W)=>tx_Check W kd fr sq dt am ky vl mm mA mc o1 o2 o3 o4 o5 ((hm.below hW).more hW.size))
   clear o1 o2 o3 o4 o5 hm
   go_upto_region 6 with fail
   have F1:=Live.ha (Lib.hid (Live.start wr1)) #[.int .i64 kd,.string ⟨fr.toArray⟩,.int .i64 sq,.string ⟨dt.toArray⟩,.int .i64 am,.string ⟨ky.toArray⟩,.string ⟨vl.toArray⟩,.slice mA mm.length mc] 43
   generalize wr1.alloc (.cells #[.int .i64 kd,.string ⟨fr.toArray⟩,.int .i64 sq,.string ⟨dt.toArray⟩,.int .i64 am,.string ⟨ky.toArray⟩,.string ⟨vl.toArray⟩,.slice mA mm.length mc] 43) = W1 at F1 ⊢
   generalize wr1.heap.size = xb at F1 ⊢
   clear r0 r1 r2 r3 r4 r5 r6 r7
   have k0_0 : W1.cell? ⟨xb,0,none⟩ = some (.int .i64 kd):=F1.out.cell 0 0 rfl rfl; have k0_1 : W1.cell? ⟨xb,1,none⟩ = some (.string ⟨fr.toArray⟩):=F1.out.cell 0 1 rfl rfl; have k0_2 : W1.cell? ⟨xb,2,none⟩ = some (.int .i64 sq):=F1.out.cell 0 2 rfl rfl; have k0_3 : W1.cell? ⟨xb,3,none⟩ = some (.string ⟨dt.toArray⟩):=F1.out.cell 0 3 rfl rfl; have k0_4 : W1.cell? ⟨xb,4,none⟩ = some (.int .i64 am):=F1.out.cell 0 4 rfl rfl; have k0_5 : W1.cell? ⟨xb,5,none⟩ = some (.string ⟨ky.toArray⟩):=F1.out.cell 0 5 rfl rfl; have k0_6 : W1.cell? ⟨xb,6,none⟩ = some (.string ⟨vl.toArray⟩):=F1.out.cell 0 6 rfl rfl; have k0_7 : W1.cell? ⟨xb,7,none⟩ = some (.slice mA mm.length mc):=F1.out.cell 0 7 rfl rfl
   generalize Ex.fineX ⟨kd,fr,sq,dt,am,ky,vl,mm⟩ = fx at *
   go_wp2_with fail
   refine (HCk.out _ F1.out.b).mono ?_
   rintro e w2 ⟨rfl,hb⟩
   have F2:=Live.hb F1 hb
   clear hb F1 k0_0 k0_1 k0_2 k0_3 k0_4 k0_5 k0_6 k0_7 HCk
   cases fx with
   | false =>
    have HE : Hid (X = ((.nil, [], []),150)):=Lib.hid (by rw [HX.out,if_pos (HNo.out rfl)])
    clear HX HStep HNo
    simp only [Bool.false_eq_true,if_false]
    go_wp2_with fail
    refine bodyPost_ret (v:=.tuple #[.pointer none,.slice none 0 0,.slice none 0 0,.int .i64 ((150 : Nat) : Int)]) (by simp [results,Tryz.results24,go_sem]) rfl ?_
    exact HPe.out 150 _ HE.out (by decide) (HI.out.2.2.nxt F2.out.b)
   | true =>
    simp only [if_true]
    go_wp2_with fail
    refine Handed.intro (l.length - (i + 1)) ?_ (hJ1 _ _ _ (fun Φ hΦ=>hΦ _ _ _ _ _ _ _ _ _ _ _ _ _ _ _ _ _ _ _ _ _ _ _ _ _ _ _ _ _ _ _ _ _ _ _ _ _ _ _ _ _ _ _ _ _ _ _ _ _ _ _ _ _ _ _ (i + 1) ?_))
    ·have:=HI.out.1; omega
    exact ⟨by have:=HI.out.1; omega,HStep.out (by first | exact trivial | rfl),HI.out.2.2.nxt F2.out.b⟩
  ·have hi1 : ((i : Int) < l.length) = False:=by simp; omega
   have HE : Hid (X = (Ex.allGo t (l.map (·.1)) [],0)):=Lib.hid (by
    rw [HX.out,if_neg]
    rw [List.take_of_length_le (by omega)] at h2
    rw [h2]; decide)
   have HB1:=Lib.hid hb
   clear h1 h2 hb hi HX
   go_wp2_with fail
   refine wp_loop_ghost_k (fun k a wr => ∀ Φ : Act → Prop,(∀ (s0 s1 s2 s3 s7 s8 s9 s10 s11 s12 s13 s14 s15 s16 s17 s18 s19 s20 s21 s22 s23 s24 s25 s26 s27 s31 s32 s33 s34 s35 s36 s37 s38 s39 s40 s41 s42 s43 s44 s45 s46 s47 s48 s49 s50 s51 s52 s53 s54 s55 s56 s57 s58 s59 s60 s61 : Value) (i : Nat) (t2 : Trie.T) (v : Value) (D : List Ex.Rc) (rA : Option Addr) (rc : Nat) (M : List Pw.Mem) (mB : Option Addr) (md : Nat),(i + k = l.length ∧ X = (((Ex.allGo t2 ((l.drop i).map (·.1)) M).1,D ++ (Ex.allGo t2 ((l.drop i).map (·.1)) M).2.1,(Ex.allGo t2 ((l.drop i).map (·.1)) M).2.2),0) ∧ D.length = i ∧ Trie.count t2 ≤ 900 + 2 * i ∧ TrieP wr t2 v ∧ wr.ownsRow w.heap.size 136 3 (.slice rA D.length rc) D.length (rcs D) ∧ wr.ownsRow w.heap.size 95 2 (.slice mB M.length md) M.length (mcells M) ∧ Below w.heap.size w wr) → Φ { tmps:=#[s0,s1,s2,s3,v,.slice rA D.length rc,.slice mB M.length md,s7,s8,s9,s10,s11,s12,s13,s14,s15,s16,s17,s18,s19,s20,s21,s22,s23,s24,s25,s26,s27,.slice A l.length c,.int .i64 l.length,.int .i64 (i : Int),s31,s32,s33,s34,s35,s36,s37,s38,s39,s40,s41,s42,s43,s44,s45,s46,s47,s48,s49,s50,s51,s52,s53,s54,s55,s56,s57,s58,s59,s60,s61],defers := [] }) → Φ a) (l.length) ?_ ?_
   ·refine fun Φ hΦ=>hΦ _ _ _ _ _ _ _ _ _ _ _ _ _ _ _ _ _ _ _ _ _ _ _ _ _ _ _ _ _ _ _ _ _ _ _ _ _ _ _ _ _ _ _ _ _ _ _ _ _ _ _ _ _ _ _ _ (0) (t) (.pointer (some ⟨vb,0,none⟩)) ([]) (none) (0) ([]) (none) (0) ?_
    exact ⟨by omega,HE.out,rfl,HCn.out,HTr.out.next HB1.out,World.ownsRow_nil _ _ _ _,World.ownsRow_nil _ _ _ _,HB1.out⟩
   ·intro k2 a2 wr2 hI2 J2 K2 hJ2 hK2
    refine hI2 (fun a=>Code.wp _ _ _ a _) ?_
    clear hI2 a2
    intro s0 s1 s2 s3 s4 s5 s6 s7 s8 s9 s10 s11 s12 s13 s14 s15 s16 s17 s18 s19 s20 s21 s22 s23 s24 s25 s26 s27 s28 s29 s30 s31 s32 s33 s34 s35 s36 s37 s38 s39 s40 s41 s42 s43 s44 s45 s46 s47 s48 s49 s50 s51 s52 s53 s54 s55 i t2 v D rA rc M mB md hrel
    show Code.wp _ _ _ _ _
    obtain ⟨h1,h2,h3,h4,hk,hD,hM,hb⟩:=hrel
    obtain ⟨_,vb2,vx2,rfl,_⟩:=id hk
    by_cases hi : i < l.length
    ·have HI:=Lib.hid (And.intro h1 (And.intro h4 (And.intro hk (And.intro hD (And.intro hM hb)))))
     have HLi:=Lib.hid (HLL.out.next hb)
     obtain ⟨ad,off,rfl,hbl,hcell⟩:=tx_cells HLi.out.r hi
     obtain ⟨r0,r1,r2,r3,r4,r5,r6,r7⟩:=hcell _ (Below.refl _ _)
     have hi1 : (i : Int) < l.length:=by omega
     have hi0 : (0 : Int) ≤ i:=by omega
     have hi8 : (i : Int) < 8:=by have:=HL8.out; omega
     have ht:=HLi.out.t _ (List.getElem_mem hi)
     have hm:=HLi.out.m _ (List.getElem_mem hi)
     have hm0:=HLL.out.m _ (List.getElem_mem hi)
     have hd : l.drop i = l[i] :: l.drop (i + 1):=List.drop_eq_getElem_cons hi
     have HDl:=Lib.hid h3
     have hDl8 : D.length < 8:=by omega
     rw [hd,List.map_cons] at h2
     have HH1:=Lib.hid h2
     have F0 : Hid (Live w wr2 []):=Lib.hid ⟨hb,by simp,List.Pairwise.nil⟩
     clear h1 h2 h3 h4 hk hD hM hb hcell hbl hd
     generalize l[i] = p at *
     generalize hrest : (l.drop (i + 1)).map (·.1) = rest at *
     have HRest:=Lib.hid hrest
     clear hrest
     obtain ⟨⟨kd,fr,sq,dt,am,ky,vl,mm⟩,mA,mc⟩:=p
     simp only at r0 r1 r2 r3 r4 r5 r6 r7 HH1 hm hm0
     obtain ⟨o1,o2,o3,o4,o5⟩:=ht
     simp only at o1 o2 o3 o4 o5
     have HM0:=Lib.hid hm0
     have HDo:=Lib.hid (fun W (hW : Below wr2.heap.size wr2 W)=>exec_Do W t2 _ (HI.out.2.2.1.next hW) (by have:=HI.out.2.1; omega) (HTb.out.next (HI.out.2.2.2.2.2.nxt hW)) kd fr sq dt am ky vl mm mA mc o1 o2 o3 o4 o5 ((hm.below hW).more hW.size))
     have hfine:=Ex.doW_done (t:=t2) (x:=⟨kd,fr,sq,dt,am,ky,vl,mm⟩)
     have hsame:=Ex.doW_same (t:=t2) (x:=⟨kd,fr,sq,dt,am,ky,vl,mm⟩)
     have hcnt:=(Ex.doW_good HI.out.2.2.1.1 ⟨kd,fr,sq,dt,am,ky,vl,mm⟩).2
     have HH2 : Hid (X = (((Ex.allGo (Ex.doW t2 ⟨kd,fr,sq,dt,am,ky,vl,mm⟩).1 rest (if (Ex.doW t2 ⟨kd,fr,sq,dt,am,ky,vl,mm⟩).2 = 0 ∧ kd = 4 then mm else M)).1,(D ++ [(((Ex.doW t2 ⟨kd,fr,sq,dt,am,ky,vl,mm⟩).2 : Int),fr,sq)]) ++ (Ex.allGo (Ex.doW t2 ⟨kd,fr,sq,dt,am,ky,vl,mm⟩).1 rest (if (Ex.doW t2 ⟨kd,fr,sq,dt,am,ky,vl,mm⟩).2 = 0 ∧ kd = 4 then mm else M)).2.1,(Ex.allGo (Ex.doW t2 ⟨kd,fr,sq,dt,am,ky,vl,mm⟩).1 rest (if (Ex.doW t2 ⟨kd,fr,sq,dt,am,ky,vl,mm⟩).2 = 0 ∧ kd = 4 then mm else M)).2.2),0)):=Lib.hid (by
      rw [HH1.out,List.append_assoc]; rfl)
     clear HH1
     have hok4 : Hid ((Ex.doW t2 ⟨kd,fr,sq,dt,am,ky,vl,mm⟩).2 = 0 → kd = 4 → mm.length ≤ 7):=Lib.hid (fun h0 h4=>by
      obtain ⟨hx,_⟩:=hfine h0
      rcases (Ex.fineX_spec hx).2.2.2 with ⟨k,_⟩ | ⟨k,_⟩ | ⟨k,_⟩ | ⟨_,_,_,_,_,hm⟩
      ·simp only at k; omega
      ·simp only at k; omega
      ·simp only at k; omega
      ·exact (Pw.okM_len hm).2)
     have HSame:=Lib.hid hsame
     have HCnt:=Lib.hid hcnt
     clear o1 o2 o3 o4 o5 hm hm0 hfine hsame hcnt
     generalize Ex.doW t2 ⟨kd,fr,sq,dt,am,ky,vl,mm⟩ = dr at *
     obtain ⟨t3,cd⟩:=dr
     simp only at HDo HH2 hok4 HSame HCnt
     go_upto_region 13 with fail
     have F1:=Live.ha F0 #[.int .i64 kd,.string ⟨fr.toArray⟩,.int .i64 sq,.string ⟨dt.toArray⟩,.int .i64 am,.string ⟨ky.toArray⟩,.string ⟨vl.toArray⟩,.slice mA mm.length mc] 43
     have BB1 : Hid (Below wr2.heap.size wr2 (wr2.alloc (.cells #[.int .i64 kd,.string ⟨fr.toArray⟩,.int .i64 sq,.string ⟨dt.toArray⟩,.int .i64 am,.string ⟨ky.toArray⟩,.string ⟨vl.toArray⟩,.slice mA mm.length mc] 43))):=Lib.hid ((Below.refl _ wr2).alloc (Nat.le_refl _) _)
     generalize wr2.alloc (.cells #[.int .i64 kd,.string ⟨fr.toArray⟩,.int .i64 sq,.string ⟨dt.toArray⟩,.int .i64 am,.string ⟨ky.toArray⟩,.string ⟨vl.toArray⟩,.slice mA mm.length mc] 43) = W1 at F1 BB1 ⊢
     generalize wr2.heap.size = xb at F1 ⊢
     clear r0 r1 r2 r3 r4 r5 r6 r7 F0
     have k0_0 : W1.cell? ⟨xb,0,none⟩ = some (.int .i64 kd):=F1.out.cell 0 0 rfl rfl; have k0_1 : W1.cell? ⟨xb,1,none⟩ = some (.string ⟨fr.toArray⟩):=F1.out.cell 0 1 rfl rfl; have k0_2 : W1.cell? ⟨xb,2,none⟩ = some (.int .i64 sq):=F1.out.cell 0 2 rfl rfl; have k0_3 : W1.cell? ⟨xb,3,none⟩ = some (.string ⟨dt.toArray⟩):=F1.out.cell 0 3 rfl rfl; have k0_4 : W1.cell? ⟨xb,4,none⟩ = some (.int .i64 am):=F1.out.cell 0 4 rfl rfl; have k0_5 : W1.cell? ⟨xb,5,none⟩ = some (.string ⟨ky.toArray⟩):=F1.out.cell 0 5 rfl rfl; have k0_6 : W1.cell? ⟨xb,6,none⟩ = some (.string ⟨vl.toArray⟩):=F1.out.cell 0 6 rfl rfl; have k0_7 : W1.cell? ⟨xb,7,none⟩ = some (.slice mA mm.length mc):=F1.out.cell 0 7 rfl rfl
     go_wp2_with fail
     refine (HDo.out _ BB1.out).mono ?_
     rintro e w3 ⟨v3,rfl,hb,hk3,hn3⟩
     have F3:=Live.hb F1 hb
     have BB3:=Lib.hid (BB1.out.nxt hb)
     have K3:=Lib.hid (And.intro hk3 hn3)
     clear hb hk3 hn3 F1 BB1 k0_0 k0_1 k0_2 k0_3 k0_4 k0_5 k0_6 k0_7 HDo
     have O3:=Lib.hid (own_below HI.out.2.2.2.1 BB3.out)
     have M3:=Lib.hid (own_below HI.out.2.2.2.2.1 BB3.out)
     have T3:=Lib.hid (HI.out.2.2.1.next BB3.out)
     have k0_1 : w3.cell? ⟨xb,1,none⟩ = some (.string ⟨fr.toArray⟩):=F3.out.cell 0 1 rfl rfl
     have k0_2 : w3.cell? ⟨xb,2,none⟩ = some (.int .i64 sq):=F3.out.cell 0 2 rfl rfl
     go_upto_region 15 with (at_builtin; refine wpList_append_new w3 136 [.int .i64 (cd : Int),.string ⟨fr.toArray⟩,.int .i64 sq] rfl _ _ 64 rfl w.heap.size 3 32 _ info_rc Tryz.underlying64 rfl (by decide) (.slice rA D.length rc) D.length (rcs D) rfl O3.out 1 1 rfl rfl (by simp [Value.oneCell']) (by simp only [maxLen]; omega) (by omega) w.heap.size w F3.out.b (Nat.le_refl _) F3.out.b.size ?_; intro v4 w4 own4 hb4 hg4 _ _; obtain ⟨A4,c4,rfl,_,_,_⟩:=own_form own4; have G4:=Lib.hid (And.intro own4 (And.intro hb4 hg4)); clear own4 hb4 hg4)
     have O4 : Hid (w4.ownsRow w.heap.size 136 3 (.slice A4 (D ++ [((cd : Int),fr,sq)]).length c4) (D ++ [((cd : Int),fr,sq)]).length (rcs (D ++ [((cd : Int),fr,sq)]))):=Lib.hid (by have:=G4.out.1; rw [rcs_snoc D ((cd : Int),fr,sq)] at this; rw [List.length_append]; exact this)
     have M4:=Lib.hid (M3.out.kept G4.out.2.2 (own_types_ne M3.out O3.out (by decide)))
     have F4:=Live.hp F3 O3.out (Nat.le_refl _) (by intro x hx; simp only [List.mem_cons,List.not_mem_nil,or_false] at hx; rcases hx with rfl; simp) G4.out.2.2
     have T4 : Hid (∀ t' v',TrieP w3 t' v' → TrieP w4 t' v'):=Lib.hid (fun t' v' hT=>hT.kept G4.out.2.2 (fun k e=>by obtain ⟨cs,hh⟩:=own_blk O3.out k e; exact ⟨_,_,hh,by decide,by decide⟩))
     clear k0_1 k0_2 G4 O3 M3 F3
     rw [show D.length + 1 = (D ++ [((cd : Int),fr,sq)]).length by simp]
     have HDn : Hid ((D ++ [((cd : Int),fr,sq)]).length = i + 1):=Lib.hid (by rw [List.length_append,HDl.out]; rfl)
     by_cases hc : cd = 0
     rotate_left
     ·have hc1 : ((cd : Int) != 0) = true:=by simp; exact hc
      have hE:=HSame.out hc
      subst hE
      rw [if_neg (fun e=>hc e.1)] at HH2
      generalize D ++ [((cd : Int),fr,sq)] = D4 at *
      clear hc HSame hok4
      go_wp2_with fail
      refine Handed.intro (l.length - (i + 1)) ?_ (hJ2 _ _ _ (fun Φ hΦ=>hΦ _ _ _ _ _ _ _ _ _ _ _ _ _ _ _ _ _ _ _ _ _ _ _ _ _ _ _ _ _ _ _ _ _ _ _ _ _ _ _ _ _ _ _ _ _ _ _ _ _ _ _ _ _ _ _ _ (i + 1) (t3) (.pointer (some ⟨vb2,0,none⟩)) (D4) (A4) (c4) (M) (mB) (md) ?_))
      ·have:=HI.out.1; omega
      exact ⟨by have:=HI.out.1; omega,by rw [HRest.out]; exact HH2.out,HDn.out,by have:=HI.out.2.1; omega,T4.out _ _ T3.out,O4.out,M4.out,F4.out.b⟩
     subst hc
     have K3b:=Lib.hid (K3.out.1 (by first | exact trivial | rfl))
     have k0_0 : w4.cell? ⟨xb,0,none⟩ = some (.int .i64 kd):=F4.out.cell 0 0 rfl rfl
     by_cases h4 : kd = 4
     rotate_left
     ·have h4' : (kd == 4) = false:=by rw [beq_eq_false_iff_ne]; exact h4
      rw [if_neg (fun e=>h4 e.2)] at HH2
      generalize D ++ [(((0 : Nat) : Int),fr,sq)] = D4 at *
      clear h4 HSame hok4
      go_wp2_with fail
      refine Handed.intro (l.length - (i + 1)) ?_ (hJ2 _ _ _ (fun Φ hΦ=>hΦ _ _ _ _ _ _ _ _ _ _ _ _ _ _ _ _ _ _ _ _ _ _ _ _ _ _ _ _ _ _ _ _ _ _ _ _ _ _ _ _ _ _ _ _ _ _ _ _ _ _ _ _ _ _ _ _ (i + 1) (t3) (v3) (D4) (A4) (c4) (M) (mB) (md) ?_))
      ·have:=HI.out.1; omega
      exact ⟨by have:=HI.out.1; omega,by rw [HRest.out]; exact HH2.out,HDn.out,by have:=HI.out.2.1; have:=HCnt.out; omega,T4.out _ _ K3b.out,O4.out,M4.out,F4.out.b⟩
     subst h4
     rw [if_pos ⟨rfl,rfl⟩] at HH2
     have hm7:=hok4.out rfl rfl
     have k0_7 : w4.cell? ⟨xb,7,none⟩ = some (.slice mA mm.length mc):=F4.out.cell 0 7 rfl rfl
     generalize D ++ [(((0 : Nat) : Int),fr,sq)] = D4 at *
     obtain ⟨i0,hii0,hz0,hz1,hz2⟩:=info_parts info_mem
     have hone:=mcells_one mm
     clear HSame hok4
     go_upto_region 19 with (at_builtin; refine wpList_append_any w4 rfl _ _ 39 rfl w.heap.size 95 i0 _ 2 24 Tryz.underlying39 hii0 hz0 hz1 hz2 rfl (by decide) (.slice none 0 0) 0 [] rfl (World.ownsRow_nil _ _ _ _) w.heap.size mA mm.length mc (mcells mm) rfl (HM0.out.below F4.out.b) hone (by simp only [maxLen]; omega) (by omega) F4.out.b.size ?_; intro v5 w5 own5 hg5 _; rw [Nat.zero_add,List.nil_append] at own5; obtain ⟨A5,c5,rfl,_,_,_⟩:=own_form own5; have O5:=Lib.hid own5; have B5 : Hid (Below w4.heap.size w4 w5 ∧ w4.grownBy w5 none):=Lib.hid ⟨(Below.refl _ _).grown hg5 (Nat.le_refl _) (by intro k e; cases e),hg5⟩; clear own5 hg5)
     go_wp2_with fail
     refine Handed.intro (l.length - (i + 1)) ?_ (hJ2 _ _ _ (fun Φ hΦ=>hΦ _ _ _ _ _ _ _ _ _ _ _ _ _ _ _ _ _ _ _ _ _ _ _ _ _ _ _ _ _ _ _ _ _ _ _ _ _ _ _ _ _ _ _ _ _ _ _ _ _ _ _ _ _ _ _ _ (i + 1) (t3) (v3) (D4) (A4) (c4) (mm) (A5) (c5) ?_))
     ·have:=HI.out.1; omega
     exact ⟨by have:=HI.out.1; omega,by rw [HRest.out]; exact HH2.out,HDn.out,by have:=HI.out.2.1; have:=HCnt.out; omega,(T4.out _ _ K3b.out).next B5.out.1,own_below O4.out B5.out.1,O5.out,F4.out.b.nxt B5.out.1⟩
    ·have hi1 : ((i : Int) < l.length) = False:=by simp; omega
     have HE2 : Hid (X = ((t2,D,M),0)):=Lib.hid (by
      rw [h2,List.drop_of_length_le (by omega)]
      simp [Ex.allGo])
     have HI:=Lib.hid (And.intro hk (And.intro hD (And.intro hM hb)))
     clear h1 h2 h3 h4 hk hD hM hb hi
     go_wp2_with fail
     refine bodyPost_ret (v:=.tuple #[.pointer (some ⟨vb2,0,none⟩),.slice rA D.length rc,.slice mB M.length md,.int .i64 0]) (by simp [results,Tryz.results24,go_sem]) rfl ?_
     exact HPo.out t2 D M _ rA rc mB md _ HE2.out HI.out.2.2.2 HI.out.1 HI.out.2.1 HI.out.2.2.1
theorem icell_cells {w : World} {B : Nat} {A : Option Addr} {l : List Trie.KV} (h : Reads w B 2 A l.length (icells l)) {i : Nat} (hi : i < l.length) :
  ∃ ad off,A = some ⟨ad,off,none⟩ ∧ ad < B ∧ ∀ W,Below B w W → W.cell? ⟨ad,off + i * 2,none⟩ = some (.string ⟨l[i].1.toArray⟩) ∧ W.cell? ⟨ad,off + i * 2 + 1,none⟩ = some (.string ⟨l[i].2.toArray⟩):=by
 obtain ⟨ad,off,h1,h2,h3⟩:=h.form (by omega) (by decide)
 refine ⟨ad,off,h1,h2,fun W hW => ?_⟩
 have g1 : ∀ j v,(icells l)[j]? = some v → W.cell? ⟨ad,off + j,none⟩ = some v:=fun j v hv=>by
  obtain ⟨h4,h5⟩:=List.getElem?_eq_some_iff.1 hv
  rw [hW.cell (p:=⟨ad,off + j,none⟩) h2,h3 j h4,h5]
 obtain ⟨q1,q2⟩:=icells_at (l:=l) (i:=i) hi
 exact ⟨by rw [Nat.mul_comm]; exact g1 _ _ q1,by rw [Nat.mul_comm,Nat.add_assoc]; exact g1 _ _ q2⟩
structure StartAt (w : World) (A : Option Addr) (l : List Ex.Ac) (B : Option Addr) (set : List Pw.Mem) (C : Option Addr) (its : List Trie.KV) : Prop where
 a : Reads w w.heap.size 3 A l.length (acells l)
 s : Reads w w.heap.size 2 B set.length (mcells set)
 i : Reads w w.heap.size 2 C its.length (icells its)
 al : ∀ x ∈ l,x.1.length ≤ 9223372036854775807
 sl : ∀ x ∈ set,x.1.length ≤ 9223372036854775807
 il : ∀ x ∈ its,x.1.length ≤ 9223372036854775807 ∧ x.2.length ≤ 9223372036854775807
 n : l.length ≤ 9223372036854775807 ∧ its.length ≤ 9223372036854775807
theorem StartAt.next {w w' : World} {A B C : Option Addr} {l : List Ex.Ac} {set : List Pw.Mem} {its : List Trie.KV} (h : StartAt w A l B set C its) (hb : Below w.heap.size w w') : StartAt w' A l B set C its :=
 ⟨(h.a.below hb).more hb.size,(h.s.below hb).more hb.size,(h.i.below hb).more hb.size,h.al,h.sl,h.il,h.n⟩
def okBig (p : TxM) : Prop:=p.1.frm.length ≤ 100 ∧ p.1.dst.length ≤ 100 ∧ p.1.key.length ≤ 100 ∧ p.1.val.length ≤ 100 ∧ p.1.mem.length ≤ 100
def okItem (x : Trie.KV) : Prop:=x.1.length ≤ 100 ∧ x.2.length ≤ 100
def Big16End (w : World) (l : List Ex.Ac) (set : List Pw.Mem) (its : List Trie.KV) (L : List TxM) (e : Ending) (w' : World) : Prop :=
 ∃ b,e = .returned (.bool b) ∧ Below w.heap.size w w' ∧ (b = false → (l.length ≤ 20 ∧ its.length ≤ 20 ∧ set.length ≤ 100 ∧ L.length ≤ 20) ∧ (∀ x ∈ its,okItem x) ∧ (∀ p ∈ L,okBig p))
theorem take_all {α : Type} {Q : α → Prop} {l : List α} {i : Nat} (hi : i < l.length) (h : ∀ x ∈ l.take i,Q x) (hx : Q l[i]) : ∀ x ∈ l.take (i + 1),Q x:=fun x hm=>by
 rw [List.take_succ_eq_append_getElem hi] at hm
 rcases List.mem_append.1 hm with hm | hm
 ·exact h x hm
 ·rw [List.mem_singleton] at hm; subst hm; exact hx
set_option maxRecDepth 100000 in
set_option maxHeartbeats 4000000 in
theorem law16_big (w : World) (A : Option Addr) (c : Nat) (l : List Ex.Ac) (B : Option Addr) (d : Nat) (set : List Pw.Mem) (C : Option Addr) (e0 : Nat) (its : List Trie.KV) (h : StartAt w A l B set C its) (D : Option Addr) (f : Nat) (L : List TxM) (HL : TxsAt w D L) :
  Calls Tryz.prog 14 #[.agg #[.slice A l.length c,.slice B set.length d,.slice C its.length e0],.slice D L.length f] w (Big16End w l set its L):=by
 have HPt : Hid (∀ w',Below w.heap.size w w' → Big16End w l set its L (.returned (.bool true)) w'):=Lib.hid (fun w' h=>⟨true,rfl,h,fun e=>by cases e⟩)
 have HPf : Hid (∀ w',Below w.heap.size w w' → l.length ≤ 20 → its.length ≤ 20 → set.length ≤ 100 → L.length ≤ 20 → (∀ x ∈ its,okItem x) → (∀ p ∈ L,okBig p) → Big16End w l set its L (.returned (.bool false)) w'):=Lib.hid (fun w' h h1 h2 h3 h4 h5 h6=>⟨false,rfl,h,fun _=>⟨⟨h1,h2,h3,h4⟩,h5,h6⟩⟩)
 generalize Big16End w l set its L = P at HPt HPf ⊢
 go_enter Tryz.func14,Tryz.ntmps14
 go_upto_region 1 with fail
 have F0:=Live.ha (Lib.hid (Live.start w)) #[.slice A l.length c,.slice B set.length d,.slice C its.length e0] 41
 generalize w.alloc (.cells #[.slice A l.length c,.slice B set.length d,.slice C its.length e0] 41) = W0 at F0 ⊢
 generalize w.heap.size = sb at F0 ⊢
 have HS:=Lib.hid (h.next F0.out.b)
 have HX:=Lib.hid (HL.next F0.out.b)
 have HLen:=Lib.hid (And.intro h.al (And.intro h.il HL.t))
 have HNn:=Lib.hid (And.intro h.n HL.n)
 clear h HL
 have k0_0 : W0.cell? ⟨sb,0,none⟩ = some (.slice A l.length c):=F0.out.cell 0 0 rfl rfl; have k0_1 : W0.cell? ⟨sb,1,none⟩ = some (.slice B set.length d):=F0.out.cell 0 1 rfl rfl; have k0_2 : W0.cell? ⟨sb,2,none⟩ = some (.slice C its.length e0):=F0.out.cell 0 2 rfl rfl
 go_wp2_with fail
 refine wp_loop_ghost_k (fun k a wr => ∀ Φ : Act → Prop,(∀ (s0 s3 s4 s6 s7 s8 s9 s10 s11 s12 s13 s14 s15 s16 s17 s18 s19 s20 s21 s22 s23 s24 s25 s26 s27 s28 s29 s30 s31 s32 s33 s34 s35 s36 s37 s38 s39 s40 s41 s42 s43 s44 s45 s46 s47 s48 s49 s50 s51 s52 s53 s54 s55 s56 s57 s58 s59 s60 s61 s62 s63 s64 s65 s66 s67 s68 s69 s70 s71 s72 s73 s74 s75 s76 s77 s78 s79 s80 s81 s82 s83 s84 s85 s86 s87 s88 s89 s90 s91 s92 s93 s94 s95 s96 s97 s98 s99 s100 s101 s102 s103 s104 s105 s106 s107 s108 s109 s110 s111 s112 s113 s114 s115 s116 s117 : Value) (i : Nat),(i + k = l.length ∧ wr = W0) → Φ { tmps:=#[s0,.slice D L.length f,.pointer (some ⟨sb,0,none⟩),s3,s4,.int .i64 (i : Int),s6,s7,s8,s9,s10,s11,s12,s13,s14,s15,s16,s17,s18,s19,s20,s21,s22,s23,s24,s25,s26,s27,s28,s29,s30,s31,s32,s33,s34,s35,s36,s37,s38,s39,s40,s41,s42,s43,s44,s45,s46,s47,s48,s49,s50,s51,s52,s53,s54,s55,s56,s57,s58,s59,s60,s61,s62,s63,s64,s65,s66,s67,s68,s69,s70,s71,s72,s73,s74,s75,s76,s77,s78,s79,s80,s81,s82,s83,s84,s85,s86,s87,s88,s89,s90,s91,s92,s93,s94,s95,s96,s97,s98,s99,s100,s101,s102,s103,s104,s105,s106,s107,s108,s109,s110,s111,s112,s113,s114,s115,s116,s117],defers := [] }) → Φ a) (l.length) ?_ ?_
 ·refine fun Φ hΦ=>hΦ _ _ _ _ _ _ _ _ _ _ _ _ _ _ _ _ _ _ _ _ _ _ _ _ _ _ _ _ _ _ _ _ _ _ _ _ _ _ _ _ _ _ _ _ _ _ _ _ _ _ _ _ _ _ _ _ _ _ _ _ _ _ _ _ _ _ _ _ _ _ _ _ _ _ _ _ _ _ _ _ _ _ _ _ _ _ _ _ _ _ _ _ _ _ _ _ _ _ _ _ _ _ _ _ _ _ _ _ _ _ _ _ _ _ _ (0) ?_
  exact ⟨by omega,rfl⟩
 ·intro k1 a1 wr1 hI1 J1 K1 hJ1 hK1
  refine hI1 (fun a=>Code.wp _ _ _ a _) ?_
  clear hI1 a1
  intro s0 s1 s2 s3 s4 s5 s6 s7 s8 s9 s10 s11 s12 s13 s14 s15 s16 s17 s18 s19 s20 s21 s22 s23 s24 s25 s26 s27 s28 s29 s30 s31 s32 s33 s34 s35 s36 s37 s38 s39 s40 s41 s42 s43 s44 s45 s46 s47 s48 s49 s50 s51 s52 s53 s54 s55 s56 s57 s58 s59 s60 s61 s62 s63 s64 s65 s66 s67 s68 s69 s70 s71 s72 s73 s74 s75 s76 s77 s78 s79 s80 s81 s82 s83 s84 s85 s86 s87 s88 s89 s90 s91 s92 s93 s94 s95 s96 s97 s98 s99 s100 s101 s102 s103 s104 s105 s106 s107 s108 s109 s110 s111 s112 s113 s114 i hrel
  show Code.wp _ _ _ _ _
  obtain ⟨h1,rfl⟩:=hrel
  have HI:=Lib.hid h1
  by_cases hi : i < l.length
  ·obtain ⟨ad,off,rfl,hbl,hcell⟩:=ac_cells HS.out.a hi
   obtain ⟨r0,_,_⟩:=hcell _ (Below.refl _ _)
   have hi1 : (i : Int) < l.length:=by omega
   have hi0 : (0 : Int) ≤ i:=by omega
   have hi9 : (i : Int) < 9223372036854775807:=by have:=HNn.out.1.1; omega
   have hlen:=HLen.out.1 _ (List.getElem_mem hi)
   clear hcell hbl h1
   generalize l[i] = x at *
   by_cases g : 100 < x.1.length
   ·have g' : (100 : Int) < x.1.length:=by omega
    clear g
    go_wp2_with fail
    exact HPt.out _ F0.out.b
   ·have g' : ((100 : Int) < x.1.length) = False:=by simp; omega
    clear g
    go_wp2_with fail
    refine Handed.intro (l.length - (i + 1)) ?_ (hJ1 _ _ _ (fun Φ hΦ=>hΦ _ _ _ _ _ _ _ _ _ _ _ _ _ _ _ _ _ _ _ _ _ _ _ _ _ _ _ _ _ _ _ _ _ _ _ _ _ _ _ _ _ _ _ _ _ _ _ _ _ _ _ _ _ _ _ _ _ _ _ _ _ _ _ _ _ _ _ _ _ _ _ _ _ _ _ _ _ _ _ _ _ _ _ _ _ _ _ _ _ _ _ _ _ _ _ _ _ _ _ _ _ _ _ _ _ _ _ _ _ _ _ _ _ _ _ (i + 1) ?_))
    ·have:=HI.out; omega
    exact ⟨by have:=HI.out; omega,rfl⟩
  ·have hi1 : ((i : Int) < l.length) = False:=by simp; omega
   clear hi h1 HI
   go_wp2_with fail
   refine wp_loop_ghost_k (fun k a wr => ∀ Φ : Act → Prop,(∀ (s0 s3 s4 s5 s7 s8 s9 s10 s11 s12 s13 s14 s15 s16 s17 s18 s19 s20 s21 s22 s23 s24 s25 s26 s27 s28 s29 s30 s31 s32 s33 s34 s35 s36 s37 s38 s39 s40 s41 s42 s43 s44 s45 s46 s47 s48 s49 s50 s51 s52 s53 s54 s55 s56 s57 s58 s59 s60 s61 s62 s63 s64 s65 s66 s67 s68 s69 s70 s71 s72 s73 s74 s75 s76 s77 s78 s79 s80 s81 s82 s83 s84 s85 s86 s87 s88 s89 s90 s91 s92 s93 s94 s95 s96 s97 s98 s99 s100 s101 s102 s103 s104 s105 s106 s107 s108 s109 s110 s111 s112 s113 s114 s115 s116 s117 : Value) (i : Nat),(i + k = its.length ∧ (∀ x ∈ its.take i,okItem x) ∧ wr = wr1) → Φ { tmps:=#[s0,.slice D L.length f,.pointer (some ⟨sb,0,none⟩),s3,s4,s5,.int .i64 (i : Int),s7,s8,s9,s10,s11,s12,s13,s14,s15,s16,s17,s18,s19,s20,s21,s22,s23,s24,s25,s26,s27,s28,s29,s30,s31,s32,s33,s34,s35,s36,s37,s38,s39,s40,s41,s42,s43,s44,s45,s46,s47,s48,s49,s50,s51,s52,s53,s54,s55,s56,s57,s58,s59,s60,s61,s62,s63,s64,s65,s66,s67,s68,s69,s70,s71,s72,s73,s74,s75,s76,s77,s78,s79,s80,s81,s82,s83,s84,s85,s86,s87,s88,s89,s90,s91,s92,s93,s94,s95,s96,s97,s98,s99,s100,s101,s102,s103,s104,s105,s106,s107,s108,s109,s110,s111,s112,s113,s114,s115,s116,s117],defers := [] }) → Φ a) (its.length) ?_ ?_
   ·refine fun Φ hΦ=>hΦ _ _ _ _ _ _ _ _ _ _ _ _ _ _ _ _ _ _ _ _ _ _ _ _ _ _ _ _ _ _ _ _ _ _ _ _ _ _ _ _ _ _ _ _ _ _ _ _ _ _ _ _ _ _ _ _ _ _ _ _ _ _ _ _ _ _ _ _ _ _ _ _ _ _ _ _ _ _ _ _ _ _ _ _ _ _ _ _ _ _ _ _ _ _ _ _ _ _ _ _ _ _ _ _ _ _ _ _ _ _ _ _ _ _ _ (0) ?_
    exact ⟨by omega,by simp,rfl⟩
   ·intro k2 a2 wr2 hI2 J2 K2 hJ2 hK2
    refine hI2 (fun a=>Code.wp _ _ _ a _) ?_
    clear hI2 a2
    intro s0 s1 s2 s3 s4 s5 s6 s7 s8 s9 s10 s11 s12 s13 s14 s15 s16 s17 s18 s19 s20 s21 s22 s23 s24 s25 s26 s27 s28 s29 s30 s31 s32 s33 s34 s35 s36 s37 s38 s39 s40 s41 s42 s43 s44 s45 s46 s47 s48 s49 s50 s51 s52 s53 s54 s55 s56 s57 s58 s59 s60 s61 s62 s63 s64 s65 s66 s67 s68 s69 s70 s71 s72 s73 s74 s75 s76 s77 s78 s79 s80 s81 s82 s83 s84 s85 s86 s87 s88 s89 s90 s91 s92 s93 s94 s95 s96 s97 s98 s99 s100 s101 s102 s103 s104 s105 s106 s107 s108 s109 s110 s111 s112 s113 s114 i hrel
    show Code.wp _ _ _ _ _
    obtain ⟨h1,h2,rfl⟩:=hrel
    have HI:=Lib.hid (And.intro h1 h2)
    by_cases hi : i < its.length
    ·obtain ⟨ad,off,rfl,hbl,hcell⟩:=icell_cells HS.out.i hi
     obtain ⟨r0,r1⟩:=hcell _ (Below.refl _ _)
     have hi1 : (i : Int) < its.length:=by omega
     have hi0 : (0 : Int) ≤ i:=by omega
     have hi9 : (i : Int) < 9223372036854775807:=by have:=HNn.out.1.2; omega
     have hlen:=HLen.out.2.1 _ (List.getElem_mem hi)
     have HSt:=Lib.hid (take_all (Q:=okItem) hi h2)
     clear hcell hbl h1 h2
     generalize its[i] = x at *
     by_cases g : 100 < x.1.length
     ·have g' : (100 : Int) < x.1.length:=by omega
      clear g
      go_wp2_with fail
      exact HPt.out _ F0.out.b
     have g' : ((100 : Int) < x.1.length) = False:=by simp; omega
     by_cases k : 100 < x.2.length
     ·have k' : (100 : Int) < x.2.length:=by omega
      clear g k
      go_wp2_with fail
      exact HPt.out _ F0.out.b
     have k' : ((100 : Int) < x.2.length) = False:=by simp; omega
     have HSn:=Lib.hid (HSt.out ⟨by omega,by omega⟩)
     clear g k
     go_wp2_with fail
     refine Handed.intro (its.length - (i + 1)) ?_ (hJ2 _ _ _ (fun Φ hΦ=>hΦ _ _ _ _ _ _ _ _ _ _ _ _ _ _ _ _ _ _ _ _ _ _ _ _ _ _ _ _ _ _ _ _ _ _ _ _ _ _ _ _ _ _ _ _ _ _ _ _ _ _ _ _ _ _ _ _ _ _ _ _ _ _ _ _ _ _ _ _ _ _ _ _ _ _ _ _ _ _ _ _ _ _ _ _ _ _ _ _ _ _ _ _ _ _ _ _ _ _ _ _ _ _ _ _ _ _ _ _ _ _ _ _ _ _ _ (i + 1) ?_))
     ·have:=HI.out.1; omega
     exact ⟨by have:=HI.out.1; omega,HSn.out,rfl⟩
    ·have hi1 : ((i : Int) < its.length) = False:=by simp; omega
     have HIt : Hid (∀ x ∈ its,okItem x):=Lib.hid (by rw [List.take_of_length_le (by omega)] at h2; exact h2)
     clear hi h1 h2 HI
     go_wp2_with fail
     refine wp_loop_ghost_k (fun k a wr => ∀ Φ : Act → Prop,(∀ (s0 s3 s4 s5 s6 s8 s9 s10 s11 s12 s13 s14 s15 s16 s17 s18 s19 s20 s21 s22 s23 s24 s25 s26 s27 s28 s29 s30 s31 s32 s33 s34 s35 s36 s37 s38 s39 s40 s41 s42 s43 s44 s45 s46 s47 s48 s49 s50 s51 s52 s53 s54 s55 s56 s57 s58 s59 s60 s61 s62 s63 s64 s65 s66 s67 s68 s69 s70 s71 s72 s73 s74 s75 s76 s77 s78 s79 s80 s81 s82 s83 s84 s85 s86 s87 s88 s89 s90 s91 s92 s93 s94 s95 s96 s97 s98 s99 s100 s101 s102 s103 s104 s105 s106 s107 s108 s109 s110 s111 s112 s113 s114 s115 s116 s117 : Value) (i : Nat),(i + k = L.length ∧ (∀ x ∈ L.take i,okBig x) ∧ wr = wr2) → Φ { tmps:=#[s0,.slice D L.length f,.pointer (some ⟨sb,0,none⟩),s3,s4,s5,s6,.int .i64 (i : Int),s8,s9,s10,s11,s12,s13,s14,s15,s16,s17,s18,s19,s20,s21,s22,s23,s24,s25,s26,s27,s28,s29,s30,s31,s32,s33,s34,s35,s36,s37,s38,s39,s40,s41,s42,s43,s44,s45,s46,s47,s48,s49,s50,s51,s52,s53,s54,s55,s56,s57,s58,s59,s60,s61,s62,s63,s64,s65,s66,s67,s68,s69,s70,s71,s72,s73,s74,s75,s76,s77,s78,s79,s80,s81,s82,s83,s84,s85,s86,s87,s88,s89,s90,s91,s92,s93,s94,s95,s96,s97,s98,s99,s100,s101,s102,s103,s104,s105,s106,s107,s108,s109,s110,s111,s112,s113,s114,s115,s116,s117],defers := [] }) → Φ a) (L.length) ?_ ?_
     ·refine fun Φ hΦ=>hΦ _ _ _ _ _ _ _ _ _ _ _ _ _ _ _ _ _ _ _ _ _ _ _ _ _ _ _ _ _ _ _ _ _ _ _ _ _ _ _ _ _ _ _ _ _ _ _ _ _ _ _ _ _ _ _ _ _ _ _ _ _ _ _ _ _ _ _ _ _ _ _ _ _ _ _ _ _ _ _ _ _ _ _ _ _ _ _ _ _ _ _ _ _ _ _ _ _ _ _ _ _ _ _ _ _ _ _ _ _ _ _ _ _ _ _ (0) ?_
      exact ⟨by omega,by simp,rfl⟩
     ·intro k3 a3 wr3 hI3 J3 K3 hJ3 hK3
      refine hI3 (fun a=>Code.wp _ _ _ a _) ?_
      clear hI3 a3
      intro s0 s1 s2 s3 s4 s5 s6 s7 s8 s9 s10 s11 s12 s13 s14 s15 s16 s17 s18 s19 s20 s21 s22 s23 s24 s25 s26 s27 s28 s29 s30 s31 s32 s33 s34 s35 s36 s37 s38 s39 s40 s41 s42 s43 s44 s45 s46 s47 s48 s49 s50 s51 s52 s53 s54 s55 s56 s57 s58 s59 s60 s61 s62 s63 s64 s65 s66 s67 s68 s69 s70 s71 s72 s73 s74 s75 s76 s77 s78 s79 s80 s81 s82 s83 s84 s85 s86 s87 s88 s89 s90 s91 s92 s93 s94 s95 s96 s97 s98 s99 s100 s101 s102 s103 s104 s105 s106 s107 s108 s109 s110 s111 s112 s113 s114 i hrel
      show Code.wp _ _ _ _ _
      obtain ⟨h1,h2,rfl⟩:=hrel
      have HI:=Lib.hid (And.intro h1 h2)
      by_cases hi : i < L.length
      ·obtain ⟨ad,off,rfl,hbl,hcell⟩:=tx_cells HX.out.r hi
       obtain ⟨_,r1,_,r3,_,r5,r6,r7⟩:=hcell _ (Below.refl _ _)
       have hi1 : (i : Int) < L.length:=by omega
       have hi0 : (0 : Int) ≤ i:=by omega
       have hi9 : (i : Int) < 9223372036854775807:=by have:=HNn.out.2; omega
       obtain ⟨o1,o2,o3,o4,_⟩:=HLen.out.2.2 _ (List.getElem_mem hi)
       have HSt:=Lib.hid (take_all (Q:=okBig) hi h2)
       clear hcell hbl h1 h2
       generalize L[i] = x at *
       by_cases g1 : 100 < x.1.frm.length
       ·have g1' : (100 : Int) < x.1.frm.length:=by omega
        clear g1
        go_wp2_with fail
        exact HPt.out _ F0.out.b
       have g1' : ((100 : Int) < x.1.frm.length) = False:=by simp; omega
       by_cases g2 : 100 < x.1.dst.length
       ·have g2' : (100 : Int) < x.1.dst.length:=by omega
        clear g1 g2
        go_wp2_with fail
        exact HPt.out _ F0.out.b
       have g2' : ((100 : Int) < x.1.dst.length) = False:=by simp; omega
       by_cases g3 : 100 < x.1.key.length
       ·have g3' : (100 : Int) < x.1.key.length:=by omega
        clear g1 g2 g3
        go_wp2_with fail
        exact HPt.out _ F0.out.b
       have g3' : ((100 : Int) < x.1.key.length) = False:=by simp; omega
       by_cases g4 : 100 < x.1.val.length
       ·have g4' : (100 : Int) < x.1.val.length:=by omega
        clear g1 g2 g3 g4
        go_wp2_with fail
        exact HPt.out _ F0.out.b
       have g4' : ((100 : Int) < x.1.val.length) = False:=by simp; omega
       by_cases g5 : 100 < x.1.mem.length
       ·have g5' : (100 : Int) < x.1.mem.length:=by omega
        clear g1 g2 g3 g4 g5
        go_wp2_with fail
        exact HPt.out _ F0.out.b
       have g5' : ((100 : Int) < x.1.mem.length) = False:=by simp; omega
       have HSn:=Lib.hid (HSt.out ⟨by omega,by omega,by omega,by omega,by omega⟩)
       clear g1 g2 g3 g4 g5
       go_wp2_with fail
       refine Handed.intro (L.length - (i + 1)) ?_ (hJ3 _ _ _ (fun Φ hΦ=>hΦ _ _ _ _ _ _ _ _ _ _ _ _ _ _ _ _ _ _ _ _ _ _ _ _ _ _ _ _ _ _ _ _ _ _ _ _ _ _ _ _ _ _ _ _ _ _ _ _ _ _ _ _ _ _ _ _ _ _ _ _ _ _ _ _ _ _ _ _ _ _ _ _ _ _ _ _ _ _ _ _ _ _ _ _ _ _ _ _ _ _ _ _ _ _ _ _ _ _ _ _ _ _ _ _ _ _ _ _ _ _ _ _ _ _ _ (i + 1) ?_))
       ·have:=HI.out.1; omega
       exact ⟨by have:=HI.out.1; omega,HSn.out,rfl⟩
      ·have hi1 : ((i : Int) < L.length) = False:=by simp; omega
       have HLt : Hid (∀ x ∈ L,okBig x):=Lib.hid (by rw [List.take_of_length_le (by omega)] at h2; exact h2)
       clear hi h1 h2 HI
       by_cases g1 : 20 < l.length
       ·have g1' : (20 : Int) < l.length:=by omega
        clear g1
        go_wp2_with fail
        exact HPt.out _ F0.out.b
       have g1' : ((20 : Int) < l.length) = False:=by simp; omega
       by_cases g2 : 20 < its.length
       ·have g2' : (20 : Int) < its.length:=by omega
        clear g1 g2
        go_wp2_with fail
        exact HPt.out _ F0.out.b
       have g2' : ((20 : Int) < its.length) = False:=by simp; omega
       by_cases g3 : 100 < set.length
       ·have g3' : (100 : Int) < set.length:=by omega
        clear g1 g2 g3
        go_wp2_with fail
        exact HPt.out _ F0.out.b
       have g3' : ((100 : Int) < set.length) = False:=by simp; omega
       by_cases g4 : 20 < L.length
       ·have g4' : (20 : Int) < L.length:=by omega
        clear g1 g2 g3 g4
        go_wp2_with fail
        exact HPt.out _ F0.out.b
       have g4' : ((20 : Int) < L.length) = False:=by simp; omega
       go_wp2_with fail
       exact HPf.out _ F0.out.b (by omega) (by omega) (by omega) (by omega) HIt.out HLt.out
theorem reads_blk16 {w : World} {b e size n : Nat} {xs : Array Value} (h : Blk w b e xs) (hn : xs.size = n * size) : Reads w w.heap.size size (some ⟨b,0,none⟩) n xs.toList:=by
 refine ⟨by simpa using hn,fun _=>⟨_,rfl,h.lt,fun j u hu => ?_⟩⟩
 have hj : j < xs.size:=by have:=(List.getElem?_eq_some_iff.1 hu).1; simpa using this
 have:=h.cell j
 rw [show (⟨b,0,none⟩ : Addr).add j = ⟨b,j,none⟩ by unfold Addr.add; split <;> simp_all]
 rw [this]
 simpa using hu
set_option maxRecDepth 100000 in
set_option maxHeartbeats 2000000 in
theorem law16_works (w : World) (hT : Tbl w) :
  Calls Tryz.prog 15 #[] w fun e w'=>e = .returned (.bool true) ∧ Below w.heap.size w w':=by
 have HP : Hid (∀ w',Below w.heap.size w w' → (fun e w'=>e = Ending.returned (.bool true) ∧ Below w.heap.size w w') (Ending.returned (.bool true)) w'):=Lib.hid (fun W' a2=>⟨rfl,a2⟩)
 generalize (fun e w'=>e = Ending.returned (.bool true) ∧ Below w.heap.size w w') = P at HP ⊢
 have HTb:=Lib.hid hT
 obtain ⟨t,u,h1,h2,h3,h4,h5⟩:=Ex.works_plain
 have HGn : Hid (∀ (W : World) A B,Below w.heap.size w W → Reads W W.heap.size 3 A 1 [.string ⟨#[97]⟩,.int .i64 9,.int .i64 0] → Reads W W.heap.size 2 B 1 [.string ⟨#[118]⟩,.int .i64 1] → Calls Tryz.prog 44 #[.slice A 1 1,.slice B 1 1] W (TPutEnd W t 0)):=Lib.hid (fun W A B hW r1 r2=>by
  have:=exec_Genesis W Ex.wA (by decide) A 1 r1 Ex.wM (by decide) B 1 r2 (hT.next hW)
  rwa [h1] at this)
 have HD1 : Hid (∀ (W : World) v,Below w.heap.size w W → TrieP W t v → Calls Tryz.prog 17 #[v,.agg #[.int .i64 1,.string ⟨#[97]⟩,.int .i64 0,.string ⟨#[98]⟩,.int .i64 5,.string ⟨#[]⟩,.string ⟨#[]⟩,.slice none 0 0]] W (TPutEnd W u 0)):=Lib.hid (fun W v hW hk=>by
  have hc:=(Ex.genW_good Ex.wA Ex.wM).2
  rw [h1] at hc
  have:=exec_Do W t v hk (by simp only at hc; omega) (hT.next hW) 1 [97] 0 [98] 5 [] [] [] none 0 (by simp) (by simp) (by simp) (by simp) (by simp) Reads.none_
  rw [show (⟨1, [97],0, [98],5, [], [], []⟩ : Ex.Tx) = Ex.wX from rfl,h2] at this
  exact this)
 have HD2 : Hid (∀ (W : World) v,Below w.heap.size w W → TrieP W u v → Calls Tryz.prog 17 #[v,.agg #[.int .i64 1,.string ⟨#[97]⟩,.int .i64 0,.string ⟨#[98]⟩,.int .i64 5,.string ⟨#[]⟩,.string ⟨#[]⟩,.slice none 0 0]] W (TPutEnd W u 160)):=Lib.hid (fun W v hW hk=>by
  have hc:=(Ex.genW_good Ex.wA Ex.wM).2
  rw [h1] at hc
  have hg:=(Ex.genW_good Ex.wA Ex.wM).1
  rw [h1] at hg
  have hc2:=(Ex.doW_good hg Ex.wX).2
  rw [h2] at hc2
  have:=exec_Do W u v hk (by simp only at hc hc2; omega) (hT.next hW) 1 [97] 0 [98] 5 [] [] [] none 0 (by simp) (by simp) (by simp) (by simp) (by simp) Reads.none_
  rw [show (⟨1, [97],0, [98],5, [], [], []⟩ : Ex.Tx) = Ex.wX from rfl,h3] at this
  exact this)
 have HA : Hid (∀ (W : World) v,TrieP W u v → Calls Tryz.prog 20 #[v,.string ⟨#[97]⟩] W (AccEnd W (([97],4,1),0))):=Lib.hid (fun W v hk=>by
  have:=exec_Account W u v hk [97] (by simp)
  unfold accW at this
  rw [h4,if_pos (by decide +kernel)] at this
  exact this)
 have HB : Hid (∀ (W : World) v,TrieP W u v → Calls Tryz.prog 20 #[v,.string ⟨#[98]⟩] W (AccEnd W (([98],5,0),0))):=Lib.hid (fun W v hk=>by
  have:=exec_Account W u v hk [98] (by simp)
  unfold accW at this
  rw [h5,if_pos (by decide +kernel)] at this
  exact this)
 clear hT h1 h2 h3 h4 h5
 go_enter Tryz.func15,Tryz.ntmps15
 go_wp2_with fail
 have F0:=Live.ha (Live.ha (Lib.hid (Live.start w)) #[.string ⟨#[97]⟩,.int .i64 9,.int .i64 0] 56) #[.string ⟨#[118]⟩,.int .i64 1] 95
 rw [show (w.alloc (.cells #[.string ⟨#[97]⟩,.int .i64 9,.int .i64 0] 56)).heap.size = w.heap.size + 1 from by show (w.heap.push _).size = _; exact Array.size_push _] at F0
 generalize (w.alloc (.cells #[.string ⟨#[97]⟩,.int .i64 9,.int .i64 0] 56)).alloc (.cells #[.string ⟨#[118]⟩,.int .i64 1] 95) = W0 at F0 ⊢
 refine (HGn.out _ _ _ F0.out.b (reads_blk16 (F0.out.blk 1 rfl) (by simp)) (reads_blk16 (F0.out.blk 0 rfl) (by simp))).mono ?_
 rintro e w1 ⟨v1,rfl,hb,hk,_⟩
 have K1:=Lib.hid (hk (by first | exact trivial | rfl))
 have B1:=Lib.hid (F0.out.b.nxt hb)
 clear hb hk F0 HGn
 obtain ⟨_,p1,x1,rfl,_⟩:=id K1.out
 go_upto_region 5 with fail
 have F2 : Hid (Live w w1 []):=Lib.hid ⟨B1.out,by simp,List.Pairwise.nil⟩
 have B12 : Hid (Below w1.heap.size w1 (w1.alloc (.cells #[.int .i64 1,.string ⟨#[97]⟩,.int .i64 0,.string ⟨#[98]⟩,.int .i64 5,.string ⟨#[]⟩,.string ⟨#[]⟩,.slice none 0 0] 43))):=Lib.hid ((Below.refl _ w1).alloc (Nat.le_refl _) _)
 have F3:=Live.ha F2 #[.int .i64 1,.string ⟨#[97]⟩,.int .i64 0,.string ⟨#[98]⟩,.int .i64 5,.string ⟨#[]⟩,.string ⟨#[]⟩,.slice none 0 0] 43
 generalize w1.alloc (.cells #[.int .i64 1,.string ⟨#[97]⟩,.int .i64 0,.string ⟨#[98]⟩,.int .i64 5,.string ⟨#[]⟩,.string ⟨#[]⟩,.slice none 0 0] 43) = w2 at F3 B12 ⊢
 generalize w1.heap.size = xb at F3 ⊢
 have K2:=Lib.hid (K1.out.next B12.out)
 clear F2 B1 K1
 have k0_0 : w2.cell? ⟨xb,0,none⟩ = some (.int .i64 1):=F3.out.cell 0 0 rfl rfl; have k0_1 : w2.cell? ⟨xb,1,none⟩ = some (.string ⟨#[97]⟩):=F3.out.cell 0 1 rfl rfl; have k0_2 : w2.cell? ⟨xb,2,none⟩ = some (.int .i64 0):=F3.out.cell 0 2 rfl rfl; have k0_3 : w2.cell? ⟨xb,3,none⟩ = some (.string ⟨#[98]⟩):=F3.out.cell 0 3 rfl rfl; have k0_4 : w2.cell? ⟨xb,4,none⟩ = some (.int .i64 5):=F3.out.cell 0 4 rfl rfl; have k0_5 : w2.cell? ⟨xb,5,none⟩ = some (.string ⟨#[]⟩):=F3.out.cell 0 5 rfl rfl; have k0_6 : w2.cell? ⟨xb,6,none⟩ = some (.string ⟨#[]⟩):=F3.out.cell 0 6 rfl rfl; have k0_7 : w2.cell? ⟨xb,7,none⟩ = some (.slice none 0 0):=F3.out.cell 0 7 rfl rfl
 go_wp2_with fail
 refine (HD1.out _ _ F3.out.b K2.out).mono ?_
 rintro e w3 ⟨v3,rfl,hb,hk,_⟩
 have F4:=Live.hb F3 hb
 have K3:=Lib.hid (hk (by first | exact trivial | rfl))
 clear hb hk F3 K2 k0_0 k0_1 k0_2 k0_3 k0_4 k0_5 k0_6 k0_7 HD1
 obtain ⟨_,p3,x3,rfl,_⟩:=id K3.out
 have k0_0 : w3.cell? ⟨xb,0,none⟩ = some (.int .i64 1):=F4.out.cell 0 0 rfl rfl; have k0_1 : w3.cell? ⟨xb,1,none⟩ = some (.string ⟨#[97]⟩):=F4.out.cell 0 1 rfl rfl; have k0_2 : w3.cell? ⟨xb,2,none⟩ = some (.int .i64 0):=F4.out.cell 0 2 rfl rfl; have k0_3 : w3.cell? ⟨xb,3,none⟩ = some (.string ⟨#[98]⟩):=F4.out.cell 0 3 rfl rfl; have k0_4 : w3.cell? ⟨xb,4,none⟩ = some (.int .i64 5):=F4.out.cell 0 4 rfl rfl; have k0_5 : w3.cell? ⟨xb,5,none⟩ = some (.string ⟨#[]⟩):=F4.out.cell 0 5 rfl rfl; have k0_6 : w3.cell? ⟨xb,6,none⟩ = some (.string ⟨#[]⟩):=F4.out.cell 0 6 rfl rfl; have k0_7 : w3.cell? ⟨xb,7,none⟩ = some (.slice none 0 0):=F4.out.cell 0 7 rfl rfl
 go_wp2_with fail
 refine (HD2.out _ _ F4.out.b K3.out).mono ?_
 rintro e w4 ⟨v4,rfl,hb,_,hn⟩
 obtain rfl:=hn (by decide)
 have F5:=Live.hb F4 hb
 have K4:=Lib.hid (K3.out.next hb)
 clear hb hn F4 K3 k0_0 k0_1 k0_2 k0_3 k0_4 k0_5 k0_6 k0_7 HD2
 go_wp2_with fail
 refine (HA.out _ _ K4.out).mono ?_
 rintro e w5 ⟨rfl,hb⟩
 have F6:=Live.hb F5 hb
 have K5:=Lib.hid (K4.out.next hb)
 clear hb F5 K4
 go_upto_region 10 with fail
 have F7:=Live.ha F6 #[.string ⟨#[97]⟩,.int .i64 4,.int .i64 1] 56
 have K6:=Lib.hid (K5.out.next ((Below.refl _ w5).alloc (Nat.le_refl _) (.cells #[.string ⟨#[97]⟩,.int .i64 4,.int .i64 1] 56)))
 generalize w5.alloc (.cells #[.string ⟨#[97]⟩,.int .i64 4,.int .i64 1] 56) = w6 at F7 K6 ⊢
 generalize w5.heap.size = ab at F7 ⊢
 clear F6 K5
 go_wp2_with fail
 refine (HB.out _ _ K6.out).mono ?_
 rintro e w7 ⟨rfl,hb⟩
 have F8:=Live.hb F7 hb
 clear hb F7 K6
 go_upto_region 11 with fail
 have F9:=Live.ha F8 #[.string ⟨#[98]⟩,.int .i64 5,.int .i64 0] 56
 generalize w7.alloc (.cells #[.string ⟨#[98]⟩,.int .i64 5,.int .i64 0] 56) = w8 at F9 ⊢
 generalize w7.heap.size = bb at F9 ⊢
 clear F8
 have k0_0 : w8.cell? ⟨bb,0,none⟩ = some (.string ⟨#[98]⟩):=F9.out.cell 0 0 rfl rfl; have k0_1 : w8.cell? ⟨bb,1,none⟩ = some (.int .i64 5):=F9.out.cell 0 1 rfl rfl; have k0_2 : w8.cell? ⟨bb,2,none⟩ = some (.int .i64 0):=F9.out.cell 0 2 rfl rfl
 have k1_0 : w8.cell? ⟨ab,0,none⟩ = some (.string ⟨#[97]⟩):=F9.out.cell 1 0 rfl rfl; have k1_1 : w8.cell? ⟨ab,1,none⟩ = some (.int .i64 4):=F9.out.cell 1 1 rfl rfl; have k1_2 : w8.cell? ⟨ab,2,none⟩ = some (.int .i64 1):=F9.out.cell 1 2 rfl rfl
 go_wp2_with fail
 exact HP.out _ F9.out.b
end Go.Proofs.YtomnlhbioijfhaaGreatDoor
namespace Go.Proofs.YtomnlhbioijfhaaGreatDoor
open Go.RowKit Go.Instr
attribute [local go_sem] ba_get ByteArray.mk_append_mk
theorem mem_run (w : World) (a b : Pw.Mem) : (Op.equalIn 10000 95 (.agg #[.string ⟨a.1.toArray⟩,.int .i64 a.2]) (.agg #[.string ⟨b.1.toArray⟩,.int .i64 b.2])).run Tryz.prog w = .ok (a == b) w:=by
 obtain ⟨a1,a2⟩:=a
 obtain ⟨b1,b2⟩:=b
 have u9:=Tryz.underlying9
 have a9:=Tryz.isAgg9
 have z9:=Tryz.sizeOf9
 have u3:=Tryz.underlying3
 have a3:=Tryz.isAgg3
 have z3:=Tryz.sizeOf3
 have hS : Tryz.prog.underlying 95 = some (.struct (Tryz.prog.fieldsOf 95)):=by kernel_rfl
 have hp : Tryz.prog.stoodInHeld 95 = false:=by kernel_rfl
 rw [show (10000 : Nat) = 9999 + 1 from rfl,run_equalIn_agg w 9999 95 _ _ hS hp]
 simp only [Program.fieldsOf,Tryz.underlying95]
 go_simp
 by_cases h1 : a1 = b1 <;> by_cases h2 : a2 = b2 <;> simp [h1,h2]
 all_goals (intro h; exact absurd h (by assumption))
theorem rc_run (w : World) (a b : Ex.Rc) : (Op.equalIn 10000 136 (.agg #[.int .i64 a.1,.string ⟨a.2.1.toArray⟩,.int .i64 a.2.2]) (.agg #[.int .i64 b.1,.string ⟨b.2.1.toArray⟩,.int .i64 b.2.2])).run Tryz.prog w = .ok (a == b) w:=by
 obtain ⟨a1,a2,aq⟩:=a
 obtain ⟨b1,b2,bq⟩:=b
 have u9:=Tryz.underlying9
 have a9:=Tryz.isAgg9
 have z9:=Tryz.sizeOf9
 have u3:=Tryz.underlying3
 have a3:=Tryz.isAgg3
 have z3:=Tryz.sizeOf3
 have u4:=Tryz.underlying31
 have a4:=Tryz.isAgg31
 have z4:=Tryz.sizeOf31
 have hS : Tryz.prog.underlying 136 = some (.struct (Tryz.prog.fieldsOf 136)):=by kernel_rfl
 have hp : Tryz.prog.stoodInHeld 136 = false:=by kernel_rfl
 rw [show (10000 : Nat) = 9999 + 1 from rfl,run_equalIn_agg w 9999 136 _ _ hS hp]
 simp only [Program.fieldsOf,Tryz.underlying136]
 go_simp
 by_cases h1 : a1 = b1 <;> by_cases h2 : a2 = b2 <;> by_cases h3 : aq = bq <;> simp [h1,h2,h3]
theorem rc_cells {w : World} {B : Nat} {A : Option Addr} {l : List Ex.Rc} (h : Reads w B 3 A l.length (rcs l)) {i : Nat} (hi : i < l.length) :
  ∃ ad off,A = some ⟨ad,off,none⟩ ∧ ad < B ∧ ∀ W,Below B w W → W.cell? ⟨ad,off + i * 3,none⟩ = some (.int .i64 l[i].1) ∧ W.cell? ⟨ad,off + i * 3 + 1,none⟩ = some (.string ⟨l[i].2.1.toArray⟩) ∧ W.cell? ⟨ad,off + i * 3 + 2,none⟩ = some (.int .i64 l[i].2.2):=by
 obtain ⟨ad,off,h1,h2,h3⟩:=flat_cells rcell_len (by decide) h hi
 exact ⟨ad,off,h1,h2,fun W hW=>⟨h3 W hW 0 _ rfl,h3 W hW 1 _ rfl,h3 W hW 2 _ rfl⟩⟩
set_option maxHeartbeats 1000000 in
theorem book_SameMembers (A B : Option Addr) (c d : Nat) (xs ys : List Pw.Mem) (w : World) (ha : Reads w w.heap.size 2 A xs.length (mcells xs)) (hb : Reads w w.heap.size 2 B ys.length (mcells ys)) (hn : xs.length ≤ 1048576) (hm : ys.length ≤ 1048576) :
  Calls Tryz.prog 27 #[.slice A xs.length c,.slice B ys.length d] w fun e w'=>e = .returned (.bool (decide (xs = ys))) ∧ Below w.heap.size w w':=by
 by_cases hnm : xs.length = ys.length
 ·have hq : ((xs.length : Int) == (ys.length : Int)) = true:=by rw [hnm]; simp
  go_enter Tryz.func27,Tryz.ntmps27
  go_wp2
  have HNM:=Lib.hid hnm
  clear hnm
  refine wp_loop_ghost_k (fun k a wr => ∀ Φ : Act → Prop,(∀ (s2 s3 s4 s7 s8 s9 s10 s11 s12 s13 s14 s15 s16 s17 s18 s19 s20 s21 s22 s23 s24 s25 s26 s27 s28 s29 s30 : Value) (i : Nat) (q : Bool),(i + k = xs.length ∧ (q = true ↔ xs.take i = ys.take i) ∧ (q = false → xs ≠ ys) ∧ Below w.heap.size w wr) → Φ { tmps:=#[.slice A xs.length c,.slice B ys.length d,s2,s3,s4,.bool q,.int .i64 i,s7,s8,s9,s10,s11,s12,s13,s14,s15,s16,s17,s18,s19,s20,s21,s22,s23,s24,s25,s26,s27,s28,s29,s30],defers := [] }) → Φ a) (xs.length) ?_ ?_
  ·refine fun Φ hΦ=>hΦ _ _ _ _ _ _ _ _ _ _ _ _ _ _ _ _ _ _ _ _ _ _ _ _ _ _ _ (0) (true) ?_
   exact ⟨by omega,by simp,by simp,Below.refl _ _⟩
  ·intro k1 a1 wr1 hI1 J1 K1 hJ1 hK1
   refine hI1 (fun a=>Code.wp _ _ _ a _) ?_
   clear hI1 a1
   intro s0 s1 s2 s3 s4 s5 s6 s7 s8 s9 s10 s11 s12 s13 s14 s15 s16 s17 s18 s19 s20 s21 s22 s23 s24 s25 s26 i q hrel
   show Code.wp _ _ _ _ _
   obtain ⟨h1,h2,h3,hw⟩:=hrel
   cases q with
   | false =>
    have h3' : xs ≠ ys:=by simpa using h3
    have H3:=Lib.hid h3'
    clear h3'
    clear h2 h3
    go_wp2
    go_ret
    exact ⟨ret_bool (by simpa using H3.out),hw⟩
   | true =>
    have H2:=Lib.hid h2
    clear h2 h3
    by_cases hi : i < xs.length
    ·have hyi : i < ys.length:=by have:=HNM.out; omega
     obtain ⟨b1,o1,rfl,hl1,hc1⟩:=mem_cells ha hi
     obtain ⟨b2,o2,rfl,hl2,hc2⟩:=mem_cells hb hyi
     obtain ⟨g1,g1b⟩:=hc1 _ hw; obtain ⟨g2,g2b⟩:=hc2 _ hw
     have EQ:=fun w=>mem_run w (xs[i]'hi) (ys[i]'hyi)
     have hi1 : (i : Int) < xs.length:=by omega
     have hi2 : (i : Int) < ys.length:=by omega
     clear hc1 hc2
     go_wp2
     go_region
     go_wp2
     refine Handed.intro (xs.length - (i + 1)) ?_ (hJ1 _ _ _ (fun Φ hΦ=>hΦ _ _ _ _ _ _ _ _ _ _ _ _ _ _ _ _ _ _ _ _ _ _ _ _ _ _ _ (i + 1) (xs[i] == ys[i]'hyi) ?_))
     ·omega
     ·have hx:=take_eq_succ' (xs:=xs) (ys:=ys) (i:=i) hi hyi (by simpa using H2.out)
      refine ⟨by omega, ?_, ?_,below_drewN hw _⟩
      ·rw [hx]; simp
      ·intro hq e
       subst e
       simp at hq
    ·have e : i = xs.length:=by omega
     have hE : xs.take i = ys.take i:=by simpa using H2.out
     rw [List.take_of_length_le (by omega),List.take_of_length_le (by have:=HNM.out; omega)] at hE
     have HE:=Lib.hid hE
     have hi1 : ((i : Int) < xs.length) = False:=by simp; omega
     clear hE
     go_wp2
     go_ret
     exact ⟨ret_bool (by rw [HE.out,decide_eq_true rfl]),hw⟩
 ·have hq : ((xs.length : Int) == (ys.length : Int)) = false:=by rw [beq_eq_false_iff_ne]; omega
  go_enter Tryz.func27,Tryz.ntmps27
  go_wp2
  refine wp_loop_rounds 1 ?_
  rw [rounds_succ]
  go_wp2
  go_ret
  exact ⟨ret_bool (by symm; rw [decide_eq_false_iff_not]; intro e; subst e; omega),Below.refl _ _⟩
set_option maxHeartbeats 1000000 in
theorem book_SameReceipts (A B : Option Addr) (c d : Nat) (xs ys : List Ex.Rc) (w : World) (ha : Reads w w.heap.size 3 A xs.length (rcs xs)) (hb : Reads w w.heap.size 3 B ys.length (rcs ys)) (hn : xs.length ≤ 1048576) (hm : ys.length ≤ 1048576) :
  Calls Tryz.prog 26 #[.slice A xs.length c,.slice B ys.length d] w fun e w'=>e = .returned (.bool (decide (xs = ys))) ∧ Below w.heap.size w w':=by
 by_cases hnm : xs.length = ys.length
 ·have hq : ((xs.length : Int) == (ys.length : Int)) = true:=by rw [hnm]; simp
  go_enter Tryz.func26,Tryz.ntmps26
  go_wp2
  have HNM:=Lib.hid hnm
  clear hnm
  refine wp_loop_ghost_k (fun k a wr => ∀ Φ : Act → Prop,(∀ (s2 s3 s4 s7 s8 s9 s10 s11 s12 s13 s14 s15 s16 s17 s18 s19 s20 s21 s22 s23 s24 s25 s26 s27 s28 s29 s30 : Value) (i : Nat) (q : Bool),(i + k = xs.length ∧ (q = true ↔ xs.take i = ys.take i) ∧ (q = false → xs ≠ ys) ∧ Below w.heap.size w wr) → Φ { tmps:=#[.slice A xs.length c,.slice B ys.length d,s2,s3,s4,.bool q,.int .i64 i,s7,s8,s9,s10,s11,s12,s13,s14,s15,s16,s17,s18,s19,s20,s21,s22,s23,s24,s25,s26,s27,s28,s29,s30],defers := [] }) → Φ a) (xs.length) ?_ ?_
  ·refine fun Φ hΦ=>hΦ _ _ _ _ _ _ _ _ _ _ _ _ _ _ _ _ _ _ _ _ _ _ _ _ _ _ _ (0) (true) ?_
   exact ⟨by omega,by simp,by simp,Below.refl _ _⟩
  ·intro k1 a1 wr1 hI1 J1 K1 hJ1 hK1
   refine hI1 (fun a=>Code.wp _ _ _ a _) ?_
   clear hI1 a1
   intro s0 s1 s2 s3 s4 s5 s6 s7 s8 s9 s10 s11 s12 s13 s14 s15 s16 s17 s18 s19 s20 s21 s22 s23 s24 s25 s26 i q hrel
   show Code.wp _ _ _ _ _
   obtain ⟨h1,h2,h3,hw⟩:=hrel
   cases q with
   | false =>
    have h3' : xs ≠ ys:=by simpa using h3
    have H3:=Lib.hid h3'
    clear h3'
    clear h2 h3
    go_wp2
    go_ret
    exact ⟨ret_bool (by simpa using H3.out),hw⟩
   | true =>
    have H2:=Lib.hid h2
    clear h2 h3
    by_cases hi : i < xs.length
    ·have hyi : i < ys.length:=by have:=HNM.out; omega
     obtain ⟨b1,o1,rfl,hl1,hc1⟩:=rc_cells ha hi
     obtain ⟨b2,o2,rfl,hl2,hc2⟩:=rc_cells hb hyi
     obtain ⟨g1,g1b,g1c⟩:=hc1 _ hw; obtain ⟨g2,g2b,g2c⟩:=hc2 _ hw
     have EQ:=fun w=>rc_run w (xs[i]'hi) (ys[i]'hyi)
     have hi1 : (i : Int) < xs.length:=by omega
     have hi2 : (i : Int) < ys.length:=by omega
     clear hc1 hc2
     go_wp2
     go_region
     go_wp2
     refine Handed.intro (xs.length - (i + 1)) ?_ (hJ1 _ _ _ (fun Φ hΦ=>hΦ _ _ _ _ _ _ _ _ _ _ _ _ _ _ _ _ _ _ _ _ _ _ _ _ _ _ _ (i + 1) (xs[i] == ys[i]'hyi) ?_))
     ·omega
     ·have hx:=take_eq_succ' (xs:=xs) (ys:=ys) (i:=i) hi hyi (by simpa using H2.out)
      refine ⟨by omega, ?_, ?_,below_drewN hw _⟩
      ·rw [hx]; simp
      ·intro hq e
       subst e
       simp at hq
    ·have e : i = xs.length:=by omega
     have hE : xs.take i = ys.take i:=by simpa using H2.out
     rw [List.take_of_length_le (by omega),List.take_of_length_le (by have:=HNM.out; omega)] at hE
     have HE:=Lib.hid hE
     have hi1 : ((i : Int) < xs.length) = False:=by simp; omega
     clear hE
     go_wp2
     go_ret
     exact ⟨ret_bool (by rw [HE.out,decide_eq_true rfl]),hw⟩
 ·have hq : ((xs.length : Int) == (ys.length : Int)) = false:=by rw [beq_eq_false_iff_ne]; omega
  go_enter Tryz.func26,Tryz.ntmps26
  go_wp2
  refine wp_loop_rounds 1 ?_
  rw [rounds_succ]
  go_wp2
  go_ret
  exact ⟨ret_bool (by symm; rw [decide_eq_false_iff_not]; intro e; subst e; omega),Below.refl _ _⟩
set_option maxHeartbeats 1000000 in
theorem book_SpoilMembers2 (w : World) (B : Nat) (A : Option Addr) (n c : Nat) (xs : List Value) (own : w.ownsRow B 95 2 (.slice A n c) n xs) (hB : B ≤ w.heap.size) (hn : n ≤ 1000000) :
  Calls Tryz.prog 28 #[.slice A n c] w fun e w'=>e = .returned (.tuple #[]) ∧ w.grownBy w' (Value.slice A n c).ownBlock:=by
 have HP : Hid (∀ w',w.grownBy w' (Value.slice A n c).ownBlock → (fun e w'=>e = Ending.returned (.tuple #[]) ∧ w.grownBy w' (Value.slice A n c).ownBlock) (.returned (.tuple #[])) w'):=Lib.hid (fun w' h=>⟨rfl,h⟩)
 generalize (fun e w'=>e = Ending.returned (.tuple #[]) ∧ w.grownBy w' (Value.slice A n c).ownBlock) = P at HP ⊢
 have HO:=Lib.hid own
 clear own
 go_enter Tryz.func28,Tryz.ntmps28
 go_wp2
 refine wp_loop_ghost_k (fun k a wr => ∀ Φ : Act → Prop,(∀ (s1 s3 s4 s5 s6 s7 s8 s9 s10 s11 s12 : Value) (i : Nat) (ys : List Value),(i + k = n ∧ wr.ownsRow B 95 2 (.slice A n c) n ys ∧ w.grownBy wr (Value.slice A n c).ownBlock) → Φ { tmps:=#[.slice A n c,s1,.int .i64 (i : Int),s3,s4,s5,s6,s7,s8,s9,s10,s11,s12],defers := [] }) → Φ a) (n) ?_ ?_
 ·refine fun Φ hΦ=>hΦ _ _ _ _ _ _ _ _ _ _ _ (0) (xs) ?_
  exact ⟨by omega,HO.out,World.grownBy.refl _ _⟩
 ·intro k1 a1 wr1 hI1 J1 K1 hJ1 hK1
  refine hI1 (fun a=>Code.wp _ _ _ a _) ?_
  clear hI1 a1
  intro s0 s1 s2 s3 s4 s5 s6 s7 s8 s9 s10 i ys hrel
  show Code.wp _ _ _ _ _
  obtain ⟨h1,ho,hb⟩:=hrel
  by_cases hi : i < n
  ·obtain ⟨g,rfl,hge,hlt,hc⟩:=own_at ho (by omega) (by omega)
   have hl : ys.length = n * 2:=ho.1
   have c0:=hc (i * 2) (by omega)
   have c1:=hc (i * 2 + 1) (by omega)
   have f0:=ho.frozenAt (i * 2)
   have f1:=ho.frozenAt (i * 2 + 1)
   have H:=Lib.hid (And.intro h1 (And.intro ho (And.intro hb hge)))
   have hi1 : (i : Int) < n:=by omega
   have hi0 : (0 : Int) ≤ i:=by omega
   generalize ys[i * 2] = u0 at *
   generalize ys[i * 2 + 1] = u1 at *
   clear h1 ho hb hge hc
   go_wp2
   refine Handed.intro (n - (i + 1)) ?_ (hJ1 _ _ _ (fun Φ hΦ=>hΦ _ _ _ _ _ _ _ _ _ _ _ (i + 1) (((ys.set (i * 2) (.string ⟨#[97,110,111,116,104,101,114,32,111,110,101]⟩)).set (i * 2 + 1) (.int .i64 0))) ?_))
   ·have:=H.out.1
    omega
   ·obtain ⟨h1,ho,hb,hge⟩:=H.out
    have s1:=ho.stored (i * 2) (.string ⟨#[97,110,111,116,104,101,114,32,111,110,101]⟩)
    have s2:=s1.1.stored (i * 2 + 1) (.int .i64 0)
    exact ⟨by omega,s2.1,grown_set1 (grown_set1 hb _ _) _ _⟩
  ·have hi2 : ((i : Int) < n) = False:=by simp; omega
   have H:=Lib.hid hb
   clear ho hb h1 hi
   go_wp2
   go_end0
   exact HP.out _ H.out
set_option maxHeartbeats 1000000 in
theorem book_SameTx (w : World) (kd : Int) (fr : List UInt8) (sq : Int) (dt : List UInt8) (am : Int) (ky vl : List UInt8) (mm : List Pw.Mem) (A B : Option Addr) (c d : Nat) (ha : Reads w w.heap.size 2 A mm.length (mcells mm)) (hb : Reads w w.heap.size 2 B mm.length (mcells mm)) (hn : mm.length ≤ 1048576) :
  Calls Tryz.prog 29 #[.agg #[.int .i64 kd,.string ⟨fr.toArray⟩,.int .i64 sq,.string ⟨dt.toArray⟩,.int .i64 am,.string ⟨ky.toArray⟩,.string ⟨vl.toArray⟩,.slice A mm.length c],.agg #[.int .i64 kd,.string ⟨fr.toArray⟩,.int .i64 sq,.string ⟨dt.toArray⟩,.int .i64 am,.string ⟨ky.toArray⟩,.string ⟨vl.toArray⟩,.slice B mm.length d]] w fun e w'=>e = .returned (.bool true) ∧ Below w.heap.size w w':=by
 have HP : Hid (∀ w',Below w.heap.size w w' → (fun e w'=>e = Ending.returned (.bool true) ∧ Below w.heap.size w w') (Ending.returned (.bool true)) w'):=Lib.hid (fun W' a2=>⟨rfl,a2⟩)
 generalize (fun e w'=>e = Ending.returned (.bool true) ∧ Below w.heap.size w w') = P at HP ⊢
 have HS:=Lib.hid (fun W (hW : Below w.heap.size w W)=>book_SameMembers A B c d mm mm W ((ha.below hW).more hW.size) ((hb.below hW).more hW.size) hn hn)
 rw [decide_eq_true rfl] at HS
 have e1 : (kd != kd) = false:=by simp
 have e2 : (fr == fr) = true:=by simp
 have e3 : (sq != sq) = false:=by simp
 have e4 : (dt == dt) = true:=by simp
 have e5 : (am != am) = false:=by simp
 have e6 : (ky == ky) = true:=by simp
 have e7 : (vl == vl) = true:=by simp
 clear ha hb hn
 go_enter Tryz.func29,Tryz.ntmps29
 go_upto_region 1 with fail
 have F0:=Live.ha (Live.ha (Lib.hid (Live.start w)) #[.int .i64 kd,.string ⟨fr.toArray⟩,.int .i64 sq,.string ⟨dt.toArray⟩,.int .i64 am,.string ⟨ky.toArray⟩,.string ⟨vl.toArray⟩,.slice A mm.length c] 43) #[.int .i64 kd,.string ⟨fr.toArray⟩,.int .i64 sq,.string ⟨dt.toArray⟩,.int .i64 am,.string ⟨ky.toArray⟩,.string ⟨vl.toArray⟩,.slice B mm.length d] 43
 rw [show (w.alloc (.cells #[.int .i64 kd,.string ⟨fr.toArray⟩,.int .i64 sq,.string ⟨dt.toArray⟩,.int .i64 am,.string ⟨ky.toArray⟩,.string ⟨vl.toArray⟩,.slice A mm.length c] 43)).heap.size = w.heap.size + 1 from by show (w.heap.push _).size = _; exact Array.size_push _] at F0
 generalize (w.alloc (.cells #[.int .i64 kd,.string ⟨fr.toArray⟩,.int .i64 sq,.string ⟨dt.toArray⟩,.int .i64 am,.string ⟨ky.toArray⟩,.string ⟨vl.toArray⟩,.slice A mm.length c] 43)).alloc (.cells #[.int .i64 kd,.string ⟨fr.toArray⟩,.int .i64 sq,.string ⟨dt.toArray⟩,.int .i64 am,.string ⟨ky.toArray⟩,.string ⟨vl.toArray⟩,.slice B mm.length d] 43) = W0 at F0 ⊢
 obtain ⟨xb,hxb⟩ : ∃ xb,w.heap.size + 1 = xb:=⟨_,rfl⟩
 obtain ⟨yb,hyb⟩ : ∃ yb,w.heap.size = yb:=⟨_,rfl⟩
 rw [hxb,hyb] at F0
 try rw [hxb]
 try rw [hyb]
 clear hxb hyb
 have k0_0 : W0.cell? ⟨xb,0,none⟩ = some (.int .i64 kd):=F0.out.cell 0 0 rfl rfl; have k0_1 : W0.cell? ⟨xb,1,none⟩ = some (.string ⟨fr.toArray⟩):=F0.out.cell 0 1 rfl rfl; have k0_2 : W0.cell? ⟨xb,2,none⟩ = some (.int .i64 sq):=F0.out.cell 0 2 rfl rfl; have k0_3 : W0.cell? ⟨xb,3,none⟩ = some (.string ⟨dt.toArray⟩):=F0.out.cell 0 3 rfl rfl; have k0_4 : W0.cell? ⟨xb,4,none⟩ = some (.int .i64 am):=F0.out.cell 0 4 rfl rfl; have k0_5 : W0.cell? ⟨xb,5,none⟩ = some (.string ⟨ky.toArray⟩):=F0.out.cell 0 5 rfl rfl; have k0_6 : W0.cell? ⟨xb,6,none⟩ = some (.string ⟨vl.toArray⟩):=F0.out.cell 0 6 rfl rfl; have k0_7 : W0.cell? ⟨xb,7,none⟩ = some (.slice B mm.length d):=F0.out.cell 0 7 rfl rfl
 have k1_0 : W0.cell? ⟨yb,0,none⟩ = some (.int .i64 kd):=F0.out.cell 1 0 rfl rfl; have k1_1 : W0.cell? ⟨yb,1,none⟩ = some (.string ⟨fr.toArray⟩):=F0.out.cell 1 1 rfl rfl; have k1_2 : W0.cell? ⟨yb,2,none⟩ = some (.int .i64 sq):=F0.out.cell 1 2 rfl rfl; have k1_3 : W0.cell? ⟨yb,3,none⟩ = some (.string ⟨dt.toArray⟩):=F0.out.cell 1 3 rfl rfl; have k1_4 : W0.cell? ⟨yb,4,none⟩ = some (.int .i64 am):=F0.out.cell 1 4 rfl rfl; have k1_5 : W0.cell? ⟨yb,5,none⟩ = some (.string ⟨ky.toArray⟩):=F0.out.cell 1 5 rfl rfl; have k1_6 : W0.cell? ⟨yb,6,none⟩ = some (.string ⟨vl.toArray⟩):=F0.out.cell 1 6 rfl rfl; have k1_7 : W0.cell? ⟨yb,7,none⟩ = some (.slice A mm.length c):=F0.out.cell 1 7 rfl rfl
 go_wp2_with fail
 refine (HS.out _ F0.out.b).mono ?_
 rintro e w1 ⟨rfl,hb⟩
 have F1:=Live.hb F0 hb
 clear hb
 go_wp2_with fail
 exact HP.out _ F1.out.b
end Go.Proofs.YtomnlhbioijfhaaGreatDoor
