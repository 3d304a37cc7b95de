import Derived.Test.YtnelhjfjkkdoaaaGreatDoorJ29
import Derived.Test.YtnelhjfjkkdoaaaGreatDoorJ25
import Derived.Test.YtnelhjfjkkdoaaaGreatDoorJ24
import Derived.Test.YtnelhjfjkkdoaaaGreatDoorJ21
set_option linter.unusedSimpArgs false
set_option linter.unusedVariables false
namespace Go.Proofs.YtnelhjfjkkdoaaaGreatDoor
open Go.RowKit Go.Instr
attribute [local go_sem] ba_get ByteArray.mk_append_mk
attribute [local go_sem ↓] Go.wp_at_zero Go.wp_at_succ
abbrev TxM:=Ex.Tx × Option Addr × Nat
def xcell (p : TxM) : List Value := [.int .i64 p.1.kind,.string ⟨p.1.frm.toArray⟩,.int .i64 p.1.seq,.string ⟨p.1.dst.toArray⟩,.int .i64 p.1.amt,.string ⟨p.1.key.toArray⟩,.string ⟨p.1.val.toArray⟩,.slice p.2.1 p.1.mem.length p.2.2]
abbrev xcells (l : List TxM) : List Value:=l.flatMap xcell
theorem xcell_len (p : TxM) : (xcell p).length = 8:=rfl
structure OkT (x : Ex.Tx) : Prop where
 f : x.frm.length ≤ 9223372036854775807
 d : x.dst.length ≤ 9223372036854775807
 k : x.key.length ≤ 9223372036854775807
 v : x.val.length ≤ 9223372036854775807
 m : ∀ y ∈ x.mem,y.1.length ≤ 9223372036854775807
structure TxsAt (w : World) (A : Option Addr) (l : List TxM) : Prop where
 r : Reads w w.heap.size 8 A l.length (xcells l)
 m : ∀ p ∈ l,Reads w w.heap.size 2 p.2.1 p.1.mem.length (mcells p.1.mem)
 t : ∀ p ∈ l,OkT p.1
 n : l.length ≤ 9223372036854775807
theorem TxsAt.next {w w' : World} {A : Option Addr} {l : List TxM} (h : TxsAt w A l) (hb : Below w.heap.size w w') : TxsAt w' A l :=
 ⟨(h.r.below hb).more hb.size,fun p hp=>((h.m p hp).below hb).more hb.size,h.t,h.n⟩
theorem tx_cells {w : World} {B : Nat} {A : Option Addr} {l : List TxM} (h : Reads w B 8 A l.length (xcells l)) {i : Nat} (hi : i < l.length) :
  ∃ ad off,A = some ⟨ad,off,none⟩ ∧ ad < B ∧ ∀ W,Below B w W →
   W.cell? ⟨ad,off + i * 8,none⟩ = some (.int .i64 l[i].1.kind) ∧ W.cell? ⟨ad,off + i * 8 + 1,none⟩ = some (.string ⟨l[i].1.frm.toArray⟩) ∧ W.cell? ⟨ad,off + i * 8 + 2,none⟩ = some (.int .i64 l[i].1.seq) ∧
   W.cell? ⟨ad,off + i * 8 + 3,none⟩ = some (.string ⟨l[i].1.dst.toArray⟩) ∧ W.cell? ⟨ad,off + i * 8 + 4,none⟩ = some (.int .i64 l[i].1.amt) ∧ W.cell? ⟨ad,off + i * 8 + 5,none⟩ = some (.string ⟨l[i].1.key.toArray⟩) ∧
   W.cell? ⟨ad,off + i * 8 + 6,none⟩ = some (.string ⟨l[i].1.val.toArray⟩) ∧ W.cell? ⟨ad,off + i * 8 + 7,none⟩ = some (.slice l[i].2.1 l[i].1.mem.length l[i].2.2):=by
 obtain ⟨ad,off,h1,h2,h3⟩:=flat_cells xcell_len (by decide) h hi
 exact ⟨ad,off,h1,h2,fun W hW=>⟨h3 W hW 0 _ rfl,h3 W hW 1 _ rfl,h3 W hW 2 _ rfl,h3 W hW 3 _ rfl,h3 W hW 4 _ rfl,h3 W hW 5 _ rfl,h3 W hW 6 _ rfl,h3 W hW 7 _ rfl⟩⟩
def rcell (r : Ex.Rc) : List Value := [.int .i64 r.1,.string ⟨r.2.1.toArray⟩,.int .i64 r.2.2]
abbrev rcs (l : List Ex.Rc) : List Value:=l.flatMap rcell
theorem rcell_one (r : Ex.Rc) : ∀ u ∈ rcell r,u.oneCell' = true:=by
 intro u hu
 simp only [rcell,List.mem_cons,List.not_mem_nil,or_false] at hu
 rcases hu with rfl | rfl | rfl <;> rfl
theorem mcells_one (l : List Pw.Mem) : ∀ u ∈ mcells l,u.oneCell' = true:=by
 intro u hu
 rw [List.mem_flatMap] at hu
 obtain ⟨m,_,hu⟩:=hu
 simp only [mcell,List.mem_cons,List.not_mem_nil,or_false] at hu
 rcases hu with rfl | rfl <;> rfl
theorem rcs_snoc (l : List Ex.Rc) (r : Ex.Rc) : rcs l ++ [.int .i64 r.1,.string ⟨r.2.1.toArray⟩,.int .i64 r.2.2] = rcs (l ++ [r]):=by simp [rcs,rcell]
theorem info_rc : (Tryz.prog.info? 75).map (fun i=>(i.zero,i.size,i.bytes)) = some (some (.agg #[.int .i64 0,.string ⟨#[]⟩,.int .i64 0]),3,32):=by kernel_rfl
theorem info_mem : (Tryz.prog.info? 165).map (fun i=>(i.zero,i.size,i.bytes)) = some (some (.agg #[.string ⟨#[]⟩,.int .i64 0]),2,24):=by kernel_rfl
theorem own_types_ne {w : World} {base base' : Nat} {e e' : TypeId} {size size' n n' : Nat} {v v' : Value} {xs xs' : List Value} (h : w.ownsRow base e size v n xs) (h' : w.ownsRow base' e' size' v' n' xs') (hne : e ≠ e') : v.ownBlock = none ∨ v.ownBlock ≠ v'.ownBlock:=by
 rcases h'.2 with ⟨rfl,_⟩ | ⟨g,cap,cur,rfl,_,hh,_⟩
 ·cases hv : v.ownBlock with
  | none=>exact .inl rfl
  | some k=>exact .inr (by simp [Value.ownBlock])
 ·exact .inr (own_blk_ne (cs:=cur) h hh hne)
theorem own_blk {w : World} {base : Nat} {e : TypeId} {size n : Nat} {v : Value} {xs : List Value} (h : w.ownsRow base e size v n xs) : ∀ k,v.ownBlock = some k → ∃ cs,Blk w k e cs:=by
 intro k hk
 rcases h.2 with ⟨rfl,_⟩ | ⟨g,cap,cur,rfl,_,hh,_⟩
 ·cases hk
 ·injection hk with hk
  subst hk
  exact ⟨_,hh⟩
def allX (t : Trie.T) (l : List Ex.Tx) : (Trie.T × List Ex.Rc × List Pw.Mem) × Nat :=
 if 8 < l.length then ((.nil, [], []),2) else if l.all Ex.fineX = false then ((.nil, [], []),150) else (Ex.allGo t l [],0)
def AllEnd (w : World) (r : (Trie.T × List Ex.Rc × List Pw.Mem) × Nat) (e : Ending) (w' : World) : Prop :=
 ∃ v A c B d,e = .returned (.tuple #[v,.slice A r.1.2.1.length c,.slice B r.1.2.2.length d,.int .i64 (r.2 : Int)]) ∧ Below w.heap.size w w' ∧ (r.2 = 0 → TrieP w' r.1.1 v) ∧ (r.2 ≠ 0 → v = .pointer none) ∧
  w'.ownsRow w.heap.size 75 3 (.slice A r.1.2.1.length c) r.1.2.1.length (rcs r.1.2.1) ∧ w'.ownsRow w.heap.size 165 2 (.slice B r.1.2.2.length d) r.1.2.2.length (mcells r.1.2.2)
theorem all_take {l : List TxM} {i : Nat} (hi : i < l.length) (h : (l.take i).all (fun p=>Ex.fineX p.1) = true) (hx : Ex.fineX l[i].1 = true) : (l.take (i + 1)).all (fun p=>Ex.fineX p.1) = true:=by
 rw [List.take_succ_eq_append_getElem hi,List.all_append,h]
 simp [hx]
set_option maxRecDepth 100000 in
set_option maxHeartbeats 4000000 in
theorem exec_All (w : World) (t : Trie.T) (v : Value) (h : TrieP w t v) (hcn : Trie.count t ≤ 900) (hT : Tbl w) (l : List TxM) (A : Option Addr) (c : Nat) (HL : TxsAt w A l) :
  Calls Tryz.prog 132 #[v,.slice A l.length c] w (AllEnd w (allX t (l.map (·.1)))):=by
 have HPe : Hid (∀ (cd : Nat) w',allX t (l.map (·.1)) = ((.nil, [], []),cd) → cd ≠ 0 → Below w.heap.size w w' → AllEnd w (allX t (l.map (·.1))) (.returned (.tuple #[.pointer none,.slice none 0 0,.slice none 0 0,.int .i64 (cd : Int)])) w'):=Lib.hid (fun cd w' e hc hb=>by
  rw [e]; exact ⟨_,none,0,none,0,rfl,hb,fun h=>absurd h hc,fun _=>rfl,World.ownsRow_nil _ _ _ _,World.ownsRow_nil _ _ _ _⟩)
 have HPo : Hid (∀ t' D M v A c B d w',allX t (l.map (·.1)) = ((t',D,M),0) → Below w.heap.size w w' → TrieP w' t' v → w'.ownsRow w.heap.size 75 3 (.slice A D.length c) D.length (rcs D) → w'.ownsRow w.heap.size 165 2 (.slice B M.length d) M.length (mcells M) → AllEnd w (allX t (l.map (·.1))) (.returned (.tuple #[v,.slice A D.length c,.slice B M.length d,.int .i64 0])) w'):=Lib.hid (fun t' D M v A c B d w' e hb h1 h2 h3=>by
  rw [e]; exact ⟨v,A,c,B,d,rfl,hb,fun _=>h1,fun h=>absurd rfl h,h2,h3⟩)
 generalize AllEnd w (allX t (l.map (·.1))) = P at HPe HPo ⊢
 have HX : Hid (allX t (l.map (·.1)) = if 8 < l.length then ((.nil, [], []),2) else if (l.all fun p=>Ex.fineX p.1) = false then ((.nil, [], []),150) else (Ex.allGo t (l.map (·.1)) [],0)):=Lib.hid (by unfold allX; rw [List.length_map,List.all_map]; rfl)
 generalize allX t (l.map (·.1)) = X at *
 have HTb:=Lib.hid hT
 by_cases h8 : 8 < l.length
 ·have h8' : (8 : Int) < l.length:=by omega
  have HE : Hid (X = ((.nil, [], []),2)):=Lib.hid (by rw [HX.out,if_pos h8])
  clear HX h8 HL hT h
  go_enter Tryz.func132,Tryz.ntmps132
  go_wp2
  refine bodyPost_ret (v:=.tuple #[.pointer none,.slice none 0 0,.slice none 0 0,.int .i64 ((2 : Nat) : Int)]) (by simp [results,Tryz.results132,go_sem]) rfl ?_
  exact HPe.out 2 _ HE.out (by decide) (Below.refl _ _)
 have h8' : ((8 : Int) < l.length) = False:=by simp; omega
 have HX:=Lib.hid (HX.out.trans (if_neg h8))
 have HL8:=Lib.hid (Nat.le_of_not_lt h8)
 have HLL:=Lib.hid HL
 have HTr:=Lib.hid h
 have HCn:=Lib.hid hcn
 obtain ⟨_,vb,vx,rfl,_⟩:=id h
 clear HL hT h8 h hcn
 go_enter Tryz.func132,Tryz.ntmps132
 go_wp2_with fail
 refine wp_loop_ghost_k (fun k a wr => ∀ Φ : Act → Prop,(∀ (s2 s3 s4 s7 s8 s9 s10 s11 s12 s13 s14 s15 s16 s20 s21 s22 s23 s24 s25 s26 s27 s28 s29 s30 s31 s32 s33 s34 s35 s36 s37 s38 s39 s40 s41 s42 s43 s44 s45 s46 s47 s48 s49 s50 s51 s52 s53 s54 s55 s56 s57 s58 s59 s60 s61 : Value) (i : Nat),(i + k = l.length ∧ (l.take i).all (fun p=>Ex.fineX p.1) = true ∧ Below w.heap.size w wr) → Φ { tmps:=#[.pointer (some ⟨vb,0,none⟩),.slice A l.length c,s2,s3,s4,.slice none 0 0,.slice none 0 0,s7,s8,s9,s10,s11,s12,s13,s14,s15,s16,.slice A l.length c,.int .i64 l.length,.int .i64 (i : Int),s20,s21,s22,s23,s24,s25,s26,s27,s28,s29,s30,s31,s32,s33,s34,s35,s36,s37,s38,s39,s40,s41,s42,s43,s44,s45,s46,s47,s48,s49,s50,s51,s52,s53,s54,s55,s56,s57,s58,s59,s60,s61],defers := [] }) → Φ a) (l.length) ?_ ?_
 ·refine fun Φ hΦ=>hΦ _ _ _ _ _ _ _ _ _ _ _ _ _ _ _ _ _ _ _ _ _ _ _ _ _ _ _ _ _ _ _ _ _ _ _ _ _ _ _ _ _ _ _ _ _ _ _ _ _ _ _ _ _ _ _ (0) ?_
  exact ⟨by omega,rfl,Below.refl _ _⟩
 ·intro k1 a1 wr1 hI1 J1 K1 hJ1 hK1
  refine hI1 (fun a=>Code.wp _ _ _ a _) ?_
  clear hI1 a1
  intro s0 s1 s2 s3 s4 s5 s6 s7 s8 s9 s10 s11 s12 s13 s14 s15 s16 s17 s18 s19 s20 s21 s22 s23 s24 s25 s26 s27 s28 s29 s30 s31 s32 s33 s34 s35 s36 s37 s38 s39 s40 s41 s42 s43 s44 s45 s46 s47 s48 s49 s50 s51 s52 s53 s54 i hrel
  show Code.wp _ _ _ _ _
  obtain ⟨h1,h2,hb⟩:=hrel
  by_cases hi : i < l.length
  ·have HI:=Lib.hid (And.intro h1 (And.intro h2 hb))
   have HLi:=Lib.hid (HLL.out.next hb)
   obtain ⟨ad,off,rfl,hbl,hcell⟩:=tx_cells HLi.out.r hi
   obtain ⟨r0,r1,r2,r3,r4,r5,r6,r7⟩:=hcell _ (Below.refl _ _)
   have hi1 : (i : Int) < l.length:=by omega
   have hi0 : (0 : Int) ≤ i:=by omega
   have hi8 : (i : Int) < 8:=by have:=HL8.out; omega
   have ht:=HLi.out.t _ (List.getElem_mem hi)
   have hm:=HLi.out.m _ (List.getElem_mem hi)
   have HStep:=Lib.hid (all_take hi h2)
   have HNo : Hid (Ex.fineX l[i].1 = false → (l.all fun p=>Ex.fineX p.1) = false):=Lib.hid (fun hx=>by
    rw [List.all_eq_false]; exact ⟨_,List.getElem_mem hi,by rw [hx]; decide⟩)
   clear h1 h2 hb hcell hbl
   generalize l[i] = p at *
   obtain ⟨⟨kd,fr,sq,dt,am,ky,vl,mm⟩,mA,mc⟩:=p
   simp only at r0 r1 r2 r3 r4 r5 r6 r7 HStep HNo hm
   obtain ⟨o1,o2,o3,o4,o5⟩:=ht
   simp only at o1 o2 o3 o4 o5
   have HCk:=Lib.hid (fun W (hW : Below wr1.heap.size wr1 W)=>tx_Check W kd fr sq dt am ky vl mm mA mc o1 o2 o3 o4 o5 ((hm.below hW).more hW.size))
   clear o1 o2 o3 o4 o5 hm
   go_upto_region 6 with fail
   have F1:=Live.ha (Lib.hid (Live.start wr1)) #[.int .i64 kd,.string ⟨fr.toArray⟩,.int .i64 sq,.string ⟨dt.toArray⟩,.int .i64 am,.string ⟨ky.toArray⟩,.string ⟨vl.toArray⟩,.slice mA mm.length mc] 80
   generalize wr1.alloc (.cells #[.int .i64 kd,.string ⟨fr.toArray⟩,.int .i64 sq,.string ⟨dt.toArray⟩,.int .i64 am,.string ⟨ky.toArray⟩,.string ⟨vl.toArray⟩,.slice mA mm.length mc] 80) = W1 at F1 ⊢
   generalize wr1.heap.size = xb at F1 ⊢
   clear r0 r1 r2 r3 r4 r5 r6 r7
   have k0_0 : W1.cell? ⟨xb,0,none⟩ = some (.int .i64 kd):=F1.out.cell 0 0 rfl rfl; have k0_1 : W1.cell? ⟨xb,1,none⟩ = some (.string ⟨fr.toArray⟩):=F1.out.cell 0 1 rfl rfl; have k0_2 : W1.cell? ⟨xb,2,none⟩ = some (.int .i64 sq):=F1.out.cell 0 2 rfl rfl; have k0_3 : W1.cell? ⟨xb,3,none⟩ = some (.string ⟨dt.toArray⟩):=F1.out.cell 0 3 rfl rfl; have k0_4 : W1.cell? ⟨xb,4,none⟩ = some (.int .i64 am):=F1.out.cell 0 4 rfl rfl; have k0_5 : W1.cell? ⟨xb,5,none⟩ = some (.string ⟨ky.toArray⟩):=F1.out.cell 0 5 rfl rfl; have k0_6 : W1.cell? ⟨xb,6,none⟩ = some (.string ⟨vl.toArray⟩):=F1.out.cell 0 6 rfl rfl; have k0_7 : W1.cell? ⟨xb,7,none⟩ = some (.slice mA mm.length mc):=F1.out.cell 0 7 rfl rfl
   generalize Ex.fineX ⟨kd,fr,sq,dt,am,ky,vl,mm⟩ = fx at *
   go_wp2_with fail
   refine (HCk.out _ F1.out.b).mono ?_
   rintro e w2 ⟨rfl,hb⟩
   have F2:=Live.hb F1 hb
   clear hb F1 k0_0 k0_1 k0_2 k0_3 k0_4 k0_5 k0_6 k0_7 HCk
   cases fx with
   | false =>
    have HE : Hid (X = ((.nil, [], []),150)):=Lib.hid (by rw [HX.out,if_pos (HNo.out rfl)])
    clear HX HStep HNo
    simp only [Bool.false_eq_true,if_false]
    go_wp2_with fail
    refine bodyPost_ret (v:=.tuple #[.pointer none,.slice none 0 0,.slice none 0 0,.int .i64 ((150 : Nat) : Int)]) (by simp [results,Tryz.results132,go_sem]) rfl ?_
    exact HPe.out 150 _ HE.out (by decide) (HI.out.2.2.nxt F2.out.b)
   | true =>
    simp only [if_true]
    go_wp2_with fail
    refine Handed.intro (l.length - (i + 1)) ?_ (hJ1 _ _ _ (fun Φ hΦ=>hΦ _ _ _ _ _ _ _ _ _ _ _ _ _ _ _ _ _ _ _ _ _ _ _ _ _ _ _ _ _ _ _ _ _ _ _ _ _ _ _ _ _ _ _ _ _ _ _ _ _ _ _ _ _ _ _ (i + 1) ?_))
    ·have:=HI.out.1; omega
    exact ⟨by have:=HI.out.1; omega,HStep.out (by first | exact trivial | rfl),HI.out.2.2.nxt F2.out.b⟩
  ·have hi1 : ((i : Int) < l.length) = False:=by simp; omega
   have HE : Hid (X = (Ex.allGo t (l.map (·.1)) [],0)):=Lib.hid (by
    rw [HX.out,if_neg]
    rw [List.take_of_length_le (by omega)] at h2
    rw [h2]; decide)
   have HB1:=Lib.hid hb
   clear h1 h2 hb hi HX
   go_wp2_with fail
   refine wp_loop_ghost_k (fun k a wr => ∀ Φ : Act → Prop,(∀ (s0 s1 s2 s3 s7 s8 s9 s10 s11 s12 s13 s14 s15 s16 s17 s18 s19 s20 s21 s22 s23 s24 s25 s26 s27 s31 s32 s33 s34 s35 s36 s37 s38 s39 s40 s41 s42 s43 s44 s45 s46 s47 s48 s49 s50 s51 s52 s53 s54 s55 s56 s57 s58 s59 s60 s61 : Value) (i : Nat) (t2 : Trie.T) (v : Value) (D : List Ex.Rc) (rA : Option Addr) (rc : Nat) (M : List Pw.Mem) (mB : Option Addr) (md : Nat),(i + k = l.length ∧ X = (((Ex.allGo t2 ((l.drop i).map (·.1)) M).1,D ++ (Ex.allGo t2 ((l.drop i).map (·.1)) M).2.1,(Ex.allGo t2 ((l.drop i).map (·.1)) M).2.2),0) ∧ D.length = i ∧ Trie.count t2 ≤ 900 + 2 * i ∧ TrieP wr t2 v ∧ wr.ownsRow w.heap.size 75 3 (.slice rA D.length rc) D.length (rcs D) ∧ wr.ownsRow w.heap.size 165 2 (.slice mB M.length md) M.length (mcells M) ∧ Below w.heap.size w wr) → Φ { tmps:=#[s0,s1,s2,s3,v,.slice rA D.length rc,.slice mB M.length md,s7,s8,s9,s10,s11,s12,s13,s14,s15,s16,s17,s18,s19,s20,s21,s22,s23,s24,s25,s26,s27,.slice A l.length c,.int .i64 l.length,.int .i64 (i : Int),s31,s32,s33,s34,s35,s36,s37,s38,s39,s40,s41,s42,s43,s44,s45,s46,s47,s48,s49,s50,s51,s52,s53,s54,s55,s56,s57,s58,s59,s60,s61],defers := [] }) → Φ a) (l.length) ?_ ?_
   ·refine fun Φ hΦ=>hΦ _ _ _ _ _ _ _ _ _ _ _ _ _ _ _ _ _ _ _ _ _ _ _ _ _ _ _ _ _ _ _ _ _ _ _ _ _ _ _ _ _ _ _ _ _ _ _ _ _ _ _ _ _ _ _ _ (0) (t) (.pointer (some ⟨vb,0,none⟩)) ([]) (none) (0) ([]) (none) (0) ?_
    exact ⟨by omega,HE.out,rfl,HCn.out,HTr.out.next HB1.out,World.ownsRow_nil _ _ _ _,World.ownsRow_nil _ _ _ _,HB1.out⟩
   ·intro k2 a2 wr2 hI2 J2 K2 hJ2 hK2
    refine hI2 (fun a=>Code.wp _ _ _ a _) ?_
    clear hI2 a2
    intro s0 s1 s2 s3 s4 s5 s6 s7 s8 s9 s10 s11 s12 s13 s14 s15 s16 s17 s18 s19 s20 s21 s22 s23 s24 s25 s26 s27 s28 s29 s30 s31 s32 s33 s34 s35 s36 s37 s38 s39 s40 s41 s42 s43 s44 s45 s46 s47 s48 s49 s50 s51 s52 s53 s54 s55 i t2 v D rA rc M mB md hrel
    show Code.wp _ _ _ _ _
    obtain ⟨h1,h2,h3,h4,hk,hD,hM,hb⟩:=hrel
    obtain ⟨_,vb2,vx2,rfl,_⟩:=id hk
    by_cases hi : i < l.length
    ·have HI:=Lib.hid (And.intro h1 (And.intro h4 (And.intro hk (And.intro hD (And.intro hM hb)))))
     have HLi:=Lib.hid (HLL.out.next hb)
     obtain ⟨ad,off,rfl,hbl,hcell⟩:=tx_cells HLi.out.r hi
     obtain ⟨r0,r1,r2,r3,r4,r5,r6,r7⟩:=hcell _ (Below.refl _ _)
     have hi1 : (i : Int) < l.length:=by omega
     have hi0 : (0 : Int) ≤ i:=by omega
     have hi8 : (i : Int) < 8:=by have:=HL8.out; omega
     have ht:=HLi.out.t _ (List.getElem_mem hi)
     have hm:=HLi.out.m _ (List.getElem_mem hi)
     have hm0:=HLL.out.m _ (List.getElem_mem hi)
     have hd : l.drop i = l[i] :: l.drop (i + 1):=List.drop_eq_getElem_cons hi
     have HDl:=Lib.hid h3
     have hDl8 : D.length < 8:=by omega
     rw [hd,List.map_cons] at h2
     have HH1:=Lib.hid h2
     have F0 : Hid (Live w wr2 []):=Lib.hid ⟨hb,by simp,List.Pairwise.nil⟩
     clear h1 h2 h3 h4 hk hD hM hb hcell hbl hd
     generalize l[i] = p at *
     generalize hrest : (l.drop (i + 1)).map (·.1) = rest at *
     have HRest:=Lib.hid hrest
     clear hrest
     obtain ⟨⟨kd,fr,sq,dt,am,ky,vl,mm⟩,mA,mc⟩:=p
     simp only at r0 r1 r2 r3 r4 r5 r6 r7 HH1 hm hm0
     obtain ⟨o1,o2,o3,o4,o5⟩:=ht
     simp only at o1 o2 o3 o4 o5
     have HM0:=Lib.hid hm0
     have HDo:=Lib.hid (fun W (hW : Below wr2.heap.size wr2 W)=>exec_Do W t2 _ (HI.out.2.2.1.next hW) (by have:=HI.out.2.1; omega) (HTb.out.next (HI.out.2.2.2.2.2.nxt hW)) kd fr sq dt am ky vl mm mA mc o1 o2 o3 o4 o5 ((hm.below hW).more hW.size))
     have hfine:=Ex.doW_done (t:=t2) (x:=⟨kd,fr,sq,dt,am,ky,vl,mm⟩)
     have hsame:=Ex.doW_same (t:=t2) (x:=⟨kd,fr,sq,dt,am,ky,vl,mm⟩)
     have hcnt:=(Ex.doW_good HI.out.2.2.1.1 ⟨kd,fr,sq,dt,am,ky,vl,mm⟩).2
     have HH2 : Hid (X = (((Ex.allGo (Ex.doW t2 ⟨kd,fr,sq,dt,am,ky,vl,mm⟩).1 rest (if (Ex.doW t2 ⟨kd,fr,sq,dt,am,ky,vl,mm⟩).2 = 0 ∧ kd = 4 then mm else M)).1,(D ++ [(((Ex.doW t2 ⟨kd,fr,sq,dt,am,ky,vl,mm⟩).2 : Int),fr,sq)]) ++ (Ex.allGo (Ex.doW t2 ⟨kd,fr,sq,dt,am,ky,vl,mm⟩).1 rest (if (Ex.doW t2 ⟨kd,fr,sq,dt,am,ky,vl,mm⟩).2 = 0 ∧ kd = 4 then mm else M)).2.1,(Ex.allGo (Ex.doW t2 ⟨kd,fr,sq,dt,am,ky,vl,mm⟩).1 rest (if (Ex.doW t2 ⟨kd,fr,sq,dt,am,ky,vl,mm⟩).2 = 0 ∧ kd = 4 then mm else M)).2.2),0)):=Lib.hid (by
      rw [HH1.out,List.append_assoc]; rfl)
     clear HH1
     have hok4 : Hid ((Ex.doW t2 ⟨kd,fr,sq,dt,am,ky,vl,mm⟩).2 = 0 → kd = 4 → mm.length ≤ 7):=Lib.hid (fun h0 h4=>by
      obtain ⟨hx,_⟩:=hfine h0
      rcases (Ex.fineX_spec hx).2.2.2 with ⟨k,_⟩ | ⟨k,_⟩ | ⟨k,_⟩ | ⟨_,_,_,_,_,hm⟩
      ·simp only at k; omega
      ·simp only at k; omega
      ·simp only at k; omega
      ·exact (Pw.okM_len hm).2)
     have HSame:=Lib.hid hsame
     have HCnt:=Lib.hid hcnt
     clear o1 o2 o3 o4 o5 hm hm0 hfine hsame hcnt
     generalize Ex.doW t2 ⟨kd,fr,sq,dt,am,ky,vl,mm⟩ = dr at *
     obtain ⟨t3,cd⟩:=dr
     simp only at HDo HH2 hok4 HSame HCnt
     go_upto_region 13 with fail
     have F1:=Live.ha F0 #[.int .i64 kd,.string ⟨fr.toArray⟩,.int .i64 sq,.string ⟨dt.toArray⟩,.int .i64 am,.string ⟨ky.toArray⟩,.string ⟨vl.toArray⟩,.slice mA mm.length mc] 80
     have BB1 : Hid (Below wr2.heap.size wr2 (wr2.alloc (.cells #[.int .i64 kd,.string ⟨fr.toArray⟩,.int .i64 sq,.string ⟨dt.toArray⟩,.int .i64 am,.string ⟨ky.toArray⟩,.string ⟨vl.toArray⟩,.slice mA mm.length mc] 80))):=Lib.hid ((Below.refl _ wr2).alloc (Nat.le_refl _) _)
     generalize wr2.alloc (.cells #[.int .i64 kd,.string ⟨fr.toArray⟩,.int .i64 sq,.string ⟨dt.toArray⟩,.int .i64 am,.string ⟨ky.toArray⟩,.string ⟨vl.toArray⟩,.slice mA mm.length mc] 80) = W1 at F1 BB1 ⊢
     generalize wr2.heap.size = xb at F1 ⊢
     clear r0 r1 r2 r3 r4 r5 r6 r7 F0
     have k0_0 : W1.cell? ⟨xb,0,none⟩ = some (.int .i64 kd):=F1.out.cell 0 0 rfl rfl; have k0_1 : W1.cell? ⟨xb,1,none⟩ = some (.string ⟨fr.toArray⟩):=F1.out.cell 0 1 rfl rfl; have k0_2 : W1.cell? ⟨xb,2,none⟩ = some (.int .i64 sq):=F1.out.cell 0 2 rfl rfl; have k0_3 : W1.cell? ⟨xb,3,none⟩ = some (.string ⟨dt.toArray⟩):=F1.out.cell 0 3 rfl rfl; have k0_4 : W1.cell? ⟨xb,4,none⟩ = some (.int .i64 am):=F1.out.cell 0 4 rfl rfl; have k0_5 : W1.cell? ⟨xb,5,none⟩ = some (.string ⟨ky.toArray⟩):=F1.out.cell 0 5 rfl rfl; have k0_6 : W1.cell? ⟨xb,6,none⟩ = some (.string ⟨vl.toArray⟩):=F1.out.cell 0 6 rfl rfl; have k0_7 : W1.cell? ⟨xb,7,none⟩ = some (.slice mA mm.length mc):=F1.out.cell 0 7 rfl rfl
     go_wp2_with fail
     refine (HDo.out _ BB1.out).mono ?_
     rintro e w3 ⟨v3,rfl,hb,hk3,hn3⟩
     have F3:=Live.hb F1 hb
     have BB3:=Lib.hid (BB1.out.nxt hb)
     have K3:=Lib.hid (And.intro hk3 hn3)
     clear hb hk3 hn3 F1 BB1 k0_0 k0_1 k0_2 k0_3 k0_4 k0_5 k0_6 k0_7 HDo
     have O3:=Lib.hid (own_below HI.out.2.2.2.1 BB3.out)
     have M3:=Lib.hid (own_below HI.out.2.2.2.2.1 BB3.out)
     have T3:=Lib.hid (HI.out.2.2.1.next BB3.out)
     have k0_1 : w3.cell? ⟨xb,1,none⟩ = some (.string ⟨fr.toArray⟩):=F3.out.cell 0 1 rfl rfl
     have k0_2 : w3.cell? ⟨xb,2,none⟩ = some (.int .i64 sq):=F3.out.cell 0 2 rfl rfl
     go_upto_region 15 with (at_builtin; refine wpList_append_new w3 75 [.int .i64 (cd : Int),.string ⟨fr.toArray⟩,.int .i64 sq] rfl _ _ 71 rfl w.heap.size 3 32 _ info_rc Tryz.underlying71 rfl (by decide) (.slice rA D.length rc) D.length (rcs D) rfl O3.out 1 1 rfl rfl (by simp [Value.oneCell']) (by simp only [maxLen]; omega) (by omega) w.heap.size w F3.out.b (Nat.le_refl _) F3.out.b.size ?_; intro v4 w4 own4 hb4 hg4 _ _; obtain ⟨A4,c4,rfl,_,_,_⟩:=own_form own4; have G4:=Lib.hid (And.intro own4 (And.intro hb4 hg4)); clear own4 hb4 hg4)
     have O4 : Hid (w4.ownsRow w.heap.size 75 3 (.slice A4 (D ++ [((cd : Int),fr,sq)]).length c4) (D ++ [((cd : Int),fr,sq)]).length (rcs (D ++ [((cd : Int),fr,sq)]))):=Lib.hid (by have:=G4.out.1; rw [rcs_snoc D ((cd : Int),fr,sq)] at this; rw [List.length_append]; exact this)
     have M4:=Lib.hid (M3.out.kept G4.out.2.2 (own_types_ne M3.out O3.out (by decide)))
     have F4:=Live.hp F3 O3.out (Nat.le_refl _) (by intro x hx; simp only [List.mem_cons,List.not_mem_nil,or_false] at hx; rcases hx with rfl; simp) G4.out.2.2
     have T4 : Hid (∀ t' v',TrieP w3 t' v' → TrieP w4 t' v'):=Lib.hid (fun t' v' hT=>hT.kept G4.out.2.2 (fun k e=>by obtain ⟨cs,hh⟩:=own_blk O3.out k e; exact ⟨_,_,hh,by decide,by decide⟩))
     clear k0_1 k0_2 G4 O3 M3 F3
     rw [show D.length + 1 = (D ++ [((cd : Int),fr,sq)]).length by simp]
     have HDn : Hid ((D ++ [((cd : Int),fr,sq)]).length = i + 1):=Lib.hid (by rw [List.length_append,HDl.out]; rfl)
     by_cases hc : cd = 0
     rotate_left
     ·have hc1 : ((cd : Int) != 0) = true:=by simp; exact hc
      have hE:=HSame.out hc
      subst hE
      rw [if_neg (fun e=>hc e.1)] at HH2
      generalize D ++ [((cd : Int),fr,sq)] = D4 at *
      clear hc HSame hok4
      go_wp2_with fail
      refine Handed.intro (l.length - (i + 1)) ?_ (hJ2 _ _ _ (fun Φ hΦ=>hΦ _ _ _ _ _ _ _ _ _ _ _ _ _ _ _ _ _ _ _ _ _ _ _ _ _ _ _ _ _ _ _ _ _ _ _ _ _ _ _ _ _ _ _ _ _ _ _ _ _ _ _ _ _ _ _ _ (i + 1) (t3) (.pointer (some ⟨vb2,0,none⟩)) (D4) (A4) (c4) (M) (mB) (md) ?_))
      ·have:=HI.out.1; omega
      exact ⟨by have:=HI.out.1; omega,by rw [HRest.out]; exact HH2.out,HDn.out,by have:=HI.out.2.1; omega,T4.out _ _ T3.out,O4.out,M4.out,F4.out.b⟩
     subst hc
     have K3b:=Lib.hid (K3.out.1 (by first | exact trivial | rfl))
     have k0_0 : w4.cell? ⟨xb,0,none⟩ = some (.int .i64 kd):=F4.out.cell 0 0 rfl rfl
     by_cases h4 : kd = 4
     rotate_left
     ·have h4' : (kd == 4) = false:=by rw [beq_eq_false_iff_ne]; exact h4
      rw [if_neg (fun e=>h4 e.2)] at HH2
      generalize D ++ [(((0 : Nat) : Int),fr,sq)] = D4 at *
      clear h4 HSame hok4
      go_wp2_with fail
      refine Handed.intro (l.length - (i + 1)) ?_ (hJ2 _ _ _ (fun Φ hΦ=>hΦ _ _ _ _ _ _ _ _ _ _ _ _ _ _ _ _ _ _ _ _ _ _ _ _ _ _ _ _ _ _ _ _ _ _ _ _ _ _ _ _ _ _ _ _ _ _ _ _ _ _ _ _ _ _ _ _ (i + 1) (t3) (v3) (D4) (A4) (c4) (M) (mB) (md) ?_))
      ·have:=HI.out.1; omega
      exact ⟨by have:=HI.out.1; omega,by rw [HRest.out]; exact HH2.out,HDn.out,by have:=HI.out.2.1; have:=HCnt.out; omega,T4.out _ _ K3b.out,O4.out,M4.out,F4.out.b⟩
     subst h4
     rw [if_pos ⟨rfl,rfl⟩] at HH2
     have hm7:=hok4.out rfl rfl
     have k0_7 : w4.cell? ⟨xb,7,none⟩ = some (.slice mA mm.length mc):=F4.out.cell 0 7 rfl rfl
     generalize D ++ [(((0 : Nat) : Int),fr,sq)] = D4 at *
     obtain ⟨i0,hii0,hz0,hz1,hz2⟩:=info_parts info_mem
     have hone:=mcells_one mm
     clear HSame hok4
     go_upto_region 19 with (at_builtin; refine wpList_append_any w4 rfl _ _ 56 rfl w.heap.size 165 i0 _ 2 24 Tryz.underlying56 hii0 hz0 hz1 hz2 rfl (by decide) (.slice none 0 0) 0 [] rfl (World.ownsRow_nil _ _ _ _) w.heap.size mA mm.length mc (mcells mm) rfl (HM0.out.below F4.out.b) hone (by simp only [maxLen]; omega) (by omega) F4.out.b.size ?_; intro v5 w5 own5 hg5 _; rw [Nat.zero_add,List.nil_append] at own5; obtain ⟨A5,c5,rfl,_,_,_⟩:=own_form own5; have O5:=Lib.hid own5; have B5 : Hid (Below w4.heap.size w4 w5 ∧ w4.grownBy w5 none):=Lib.hid ⟨(Below.refl _ _).grown hg5 (Nat.le_refl _) (by intro k e; cases e),hg5⟩; clear own5 hg5)
     go_wp2_with fail
     refine Handed.intro (l.length - (i + 1)) ?_ (hJ2 _ _ _ (fun Φ hΦ=>hΦ _ _ _ _ _ _ _ _ _ _ _ _ _ _ _ _ _ _ _ _ _ _ _ _ _ _ _ _ _ _ _ _ _ _ _ _ _ _ _ _ _ _ _ _ _ _ _ _ _ _ _ _ _ _ _ _ (i + 1) (t3) (v3) (D4) (A4) (c4) (mm) (A5) (c5) ?_))
     ·have:=HI.out.1; omega
     exact ⟨by have:=HI.out.1; omega,by rw [HRest.out]; exact HH2.out,HDn.out,by have:=HI.out.2.1; have:=HCnt.out; omega,(T4.out _ _ K3b.out).next B5.out.1,own_below O4.out B5.out.1,O5.out,F4.out.b.nxt B5.out.1⟩
    ·have hi1 : ((i : Int) < l.length) = False:=by simp; omega
     have HE2 : Hid (X = ((t2,D,M),0)):=Lib.hid (by
      rw [h2,List.drop_of_length_le (by omega)]
      simp [Ex.allGo])
     have HI:=Lib.hid (And.intro hk (And.intro hD (And.intro hM hb)))
     clear h1 h2 h3 h4 hk hD hM hb hi
     go_wp2_with fail
     refine bodyPost_ret (v:=.tuple #[.pointer (some ⟨vb2,0,none⟩),.slice rA D.length rc,.slice mB M.length md,.int .i64 0]) (by simp [results,Tryz.results132,go_sem]) rfl ?_
     exact HPo.out t2 D M _ rA rc mB md _ HE2.out HI.out.2.2.2 HI.out.1 HI.out.2.1 HI.out.2.2.1
end Go.Proofs.YtnelhjfjkkdoaaaGreatDoor
namespace Go.Proofs.YtnelhjfjkkdoaaaGreatDoor
namespace Ex
open Trie Pw
theorem doW_no {t : T} {x : Tx} (h : (doW t x).2 ≠ 0) : (doW t x).1 = t:=by
 unfold doW at h ⊢
 split
 ·rfl
 rename_i hf
 rw [if_neg hf] at h
 split
 ·rename_i f tt h1 h2
  rw [h1,h2] at h
  simp only at h
  split
  ·rfl
  rename_i hg
  rw [if_neg hg] at h
  split
  ·rename_i hk
   rw [if_pos hk] at h
   exact absurd rfl h
  ·rfl
 ·rfl
theorem midW_few {t : T} (hg : Trie.Good t) {x : Tx} (hx : fineX x = true) : count (midW t x) ≤ count t + 1:=by
 unfold midW
 split
 ·rename_i f tt h1 h2
  refine (kindW_good hg hx (acc_le h1).1 ?_).2.1
  unfold accTo at h2
  split at h2
  ·exact acc_le h2
  ·injection h2 with h2; subst h2; exact ⟨by simp,by simp⟩
 ·omega
theorem doL_few {t : T} (hg : Trie.Good t) (h : count t ≤ 1000) (x : Tx) : doL t x = doW t x:=by
 by_cases h0 : (doW t x).2 = 0
 ·have hx : fineX x = true:=by
   by_cases hx : fineX x = true
   ·exact hx
   ·unfold doW at h0
    rw [if_pos (by simpa using hx)] at h0
    cases h0
  have hm:=midW_few hg hx
  have h1 : full1 t x = false:=by
   unfold full1
   split
   ·exact noRoom_few (by omega)
   ·rfl
  rw [doL_two h0 h1,noRoom_few (by omega),if_neg (by decide),← h0]
 ·rw [doL_no rfl h0]
  exact (Prod.ext (doW_no h0) rfl).symm
theorem allGoL_few : ∀ (l : List Tx) (t : T) (m : List Mem),Trie.Good t → count t + 2 * l.length ≤ 1000 → allGoL t l m = allGo t l m
 | [],t,m,hg,hc=>rfl
 | x :: r,t,m,hg,hc=>by
  rw [List.length_cons] at hc
  rw [allGoL,allGo,doL_few hg (by omega)]
  obtain ⟨h1,h2⟩:=doW_good hg x
  rw [allGoL_few r _ _ h1 (by omega)]
theorem allL_few {t : T} (hg : Trie.Good t) (h : count t ≤ 900) (l : List Tx) : allL t l = allX t l:=by
 unfold allL allX
 split
 ·rfl
 split
 ·rfl
 rw [allGoL_few l t [] hg (by omega)]
end Ex
namespace Led
open Trie Pw
def Few (l : List En) (n : Nat) : Prop := ∀ e ∈ l,count e.st ≤ n
theorem newE_few (l : List Ex.Ac) (set : List Mem) : Few [newE (Ex.genW l set).1 set] 9:=by
 intro e he
 rw [List.mem_singleton] at he
 subst he
 exact (Ex.genW_good l set).2
theorem addW_few {l : List En} (h : Wf l) {n : Nat} (hn : Few l n) (h9 : n ≤ 900) (view : Int) (txs : List Ex.Tx) : Few (addW l view txs).1 (n + 16):=by
 obtain ⟨k,hk⟩ : ∃ k,l.length = k + 1:=⟨l.length - 1,by have:=h.pos; omega⟩
 have hm : Few l (n + 16):=fun e he=>Nat.le_trans (hn e he) (by omega)
 unfold addW
 rw [last_of hk]
 simp only
 split
 ·rename_i hc
  have o:=h.one k (by omega)
  have hc0:=hn _ (List.getElem_mem (show k < l.length by omega))
  obtain ⟨a1,a2,a3⟩:=Ex.allL_ok (makeC_all hc)
  intro e he
  rcases List.mem_append.1 he with he | he
  ·exact hm e he
  ·rw [List.mem_singleton] at he
   subst he
   show count (Ex.allL l[k].st txs).1.1 ≤ _
   rw [a3,Ex.allGoL_few txs _ [] o.good (by omega)]
   have:=(Ex.allGo_good txs l[k].st [] o.good).2.1
   simp only
   omega
 ·exact hm
end Led
namespace Ex
open Trie Pw
theorem getW_code (t : T) (k : List UInt8) : (getW t k).2 ≤ 5:=by
 unfold getW
 split
 ·split <;> simp
 ·simp
theorem kindW_code (t : T) (x : Tx) (f tt : Nat × Nat) : (kindW t x f tt).2.1 ≤ 162:=by
 have:=getW_code t (dKey x.key)
 unfold kindW
 split
 ·split
  ·simp
  split
  ·simp
  split <;> simp
 split
 ·simp
 split
 ·split
  ·simp
  ·simp only; omega
 split <;> simp
theorem doW_code (t : T) (x : Tx) : (doW t x).2 ≤ 162:=by
 unfold doW
 split
 ·simp
 split
 ·rename_i f tt _ _
  have:=kindW_code t x f tt
  split
  ·simp
  split
  ·simp
  ·exact this
 ·simp
theorem doL_code (t : T) (x : Tx) : (doL t x).2 ≤ 162:=by
 have:=doW_code t x
 unfold doL
 split
 ·exact this
 split
 ·simp
 split <;> simp
theorem allGoL_rok : ∀ (l : List Tx) (t : T) (m : List Mem),(∀ x ∈ l,fineX x = true) → ∀ r ∈ (allGoL t l m).2.1,rcOk r.1 r.2.1 r.2.2
 | [],t,m,h=>by simp [allGoL]
 | x :: r,t,m,h=>by
  intro y hy
  simp only [allGoL,List.mem_cons] at hy
  rcases hy with rfl | hy
  ·obtain ⟨h1,h2,h3,_⟩:=fineX_spec (h x (by simp))
   have hn:=nameW_len h1
   have hc:=doL_code t x
   exact ⟨by simp only; omega,by simp only; omega,fun e=>by simp only at e; rw [e] at hn; simp at hn,hn.2,h2,h3⟩
  ·exact allGoL_rok r _ _ (fun z hz=>h z (by simp [hz])) y hy
end Ex
theorem treeW_rok : ∀ (l : List (Int × List UInt8 × Int)) (t : Trie.T) (k : Nat),(∀ x ∈ l,rcOk x.1 x.2.1 x.2.2) → (treeW t k l).2 = 0
 | [],t,k,h=>rfl
 | x :: l,t,k,h=>by
  rw [treeW,if_pos (h x (by simp))]
  exact treeW_rok l _ _ fun y hy=>h y (by simp [hy])
namespace Led
open Trie Pw
structure Rt (e : En) : Prop where
 st : e.hd.st = sumT e.st
 rc : e.hd.rc = rootR e.rcs
 tx : e.hd.tx = Ex.rootX e.txs
 len : e.rcs.length = e.txs.length
 few : e.txs.length ≤ 8
 fine : ∀ x ∈ e.txs,Ex.fineX x = true
 rok : ∀ r ∈ e.rcs,rcOk r.1 r.2.1 r.2.2
theorem Rt.tree {e : En} (h : Rt e) : (treeF e.rcs).2 = 0:=by
 have:=h.len
 have:=h.few
 unfold treeF
 rw [if_neg (by omega)]
 exact treeW_rok _ _ _ h.rok
theorem newE_rt (t : T) (set : List Mem) : Rt (newE t set):=by
 have h : rootR [] = []:=rfl
 unfold newE newH
 generalize Hd.dig _ = d
 refine ⟨?_, ?_, ?_, ?_, ?_, ?_, ?_⟩ <;> simp [h]
theorem makeE_rt {l : List En} {p : En} {view : Int} {txs : List Ex.Tx} (hg : Trie.Good p.st) (hc0 : count p.st ≤ 1024) (hc : makeC p view txs = 0) : Rt (makeE l p view txs):=by
 obtain ⟨a1,a2,a3⟩:=Ex.allL_ok (makeC_all hc)
 have hl:=(Ex.allGoL_good txs p.st [] hg hc0).2.2
 unfold makeE
 rw [a3]
 have hr:=Ex.allGoL_rok txs p.st [] a2
 unfold nextE nextH
 generalize Hd.dig _ = d
 generalize Ex.allGoL p.st txs [] = q at *
 obtain ⟨t,R,M⟩:=q
 simp only at hl hr ⊢
 generalize hz : sumT t = a
 generalize hy : rootR R = b at *
 generalize hx : Ex.rootX txs = c
 exact ⟨hz.symm,hy.symm,hx.symm,hl,a1,a2,hr⟩
def Rts (l : List En) : Prop := ∀ e ∈ l,Rt e
theorem addW_rts {l : List En} (h : Wf l) (hr : Rts l) (view : Int) (txs : List Ex.Tx) : Rts (addW l view txs).1:=by
 obtain ⟨n,hn⟩ : ∃ n,l.length = n + 1:=⟨l.length - 1,by have:=h.pos; omega⟩
 unfold addW
 rw [last_of hn]
 simp only
 split
 ·rename_i hc
  have o:=h.one n (by omega)
  intro e he
  rcases List.mem_append.1 he with he | he
  ·exact hr e he
  ·rw [List.mem_singleton] at he
   subst he
   exact makeE_rt o.good o.cnt hc
 ·exact hr
theorem Rts.grow : ∀ (r : List (Int × List Ex.Tx)) (l : List En),Wf l → Rts l → Rts (growW l r)
 | [],l,h,hr=>hr
 | b :: r,l,h,hr=>Rts.grow r _ (addW_wf h b.1 b.2) (addW_rts h hr b.1 b.2)
theorem findIdx_mem : ∀ (l : List Nat) (j : Nat),j ∈ l → ∃ k : Nat,l.findIdx? (fun (n : Nat)=>decide ((n : Int) = (j : Int))) = some k ∧ l[k]? = some j:=by
 intro l j hj
 cases h : l.findIdx? (fun (n : Nat)=>decide ((n : Int) = (j : Int))) with
 | none =>
  rw [List.findIdx?_eq_none_iff] at h
  have:=h j hj
  simp at this
 | some k =>
  rw [List.findIdx?_eq_some_iff_getElem] at h
  obtain ⟨hk,h1,_⟩:=h
  refine ⟨k,rfl, ?_⟩
  rw [List.getElem?_eq_getElem hk]
  have : (l[k] : Int) = j:=by simpa using h1
  congr 1
  omega
theorem link_sum {l : List En} (h : Wf l) {i j : Nat} (hi : i < l.length) (hj : (0 < i ∧ j = i - 1) ∨ j ∈ Skip.links i) (h1 : 1 ≤ i) : Hd.link l[i].hd j = (sumAt l j,0) ∧ j < i:=by
 have o:=h.one i hi
 have hok:=(Hd.ok_iff _).2 o.ok
 have hh:=o.hgt
 have h2:=h.le
 have hL : Hd.linksH l[i].hd.hgt = Skip.links i:=by
  unfold Hd.linksH
  rw [if_pos (by omega),hh]
  rfl
 have hlt : j < i:=by
  rcases hj with hj | hj
  ·omega
  ·refine linksH_lt (h:=i) j ?_
   rw [← hh,hL]
   exact hj
 refine ⟨?_,hlt⟩
 unfold Hd.link
 rw [hok,if_neg (by decide)]
 by_cases hp : j = i - 1
 ·rw [if_pos (by omega)]
  have h3:=(h.two j (by omega))
  have e : l[j + 1]'(by omega) = l[i]:=by congr 1; omega
  rw [e] at h3
  rw [h3.par,sumAt_of (by omega)]
 ·rw [if_neg (by omega)]
  have hj : j ∈ Skip.links i:=by
   rcases hj with hj | hj
   ·omega
   ·exact hj
  rw [hL]
  obtain ⟨k,hk,hk2⟩:=findIdx_mem _ _ hj
  rw [hk]
  have hs:=h.sk i hi
  have hI : Hd.linksH (i : Int) = Skip.links i:=by rw [← hh]; exact hL
  rw [hI] at hs
  simp only
  rw [hs,List.getElem?_map,hk2]
  rfl
end Led
namespace Ex
open Pw Trie
def wR : List Ac := [([114,111,111,116],0,0)]
def wV : List Mem := [([118],1)]
def wN : List Mem := [([119],1)]
def wX4 : Tx:=⟨4, [114,111,111,116],0, [],0, [], [],wN⟩
theorem wV_ok : okM wV = true:=by decide +kernel
theorem wX4_fine : fineX wX4 = true:=by decide +kernel
theorem work_tx : ∃ t u R,genW wR wV = (t,0) ∧ allL t [wX4] = ((u,R,wN),0):=by
 have hg0 : genW wR wV = (put (put .nil (Nib.of (aKey [114,111,111,116])) (writA (0,0))) (Nib.of sKey) (digM wV),0):=by
  have h1 : genA .nil wR = (put .nil (Nib.of (aKey [114,111,111,116])) (writA (0,0)),0):=by
   unfold wR
   rw [genA,if_neg (by decide +kernel),if_neg (by decide +kernel),genA]
   rfl
  unfold genW
  rw [if_neg (by decide),h1,if_neg (by simp),wV_ok,if_neg (by simp)]
 have hgd:=genW_good wR wV
 rw [hg0] at hgd
 have hl:=digM_len wV_ok
 have g1 : Trie.Good (put .nil (Nib.of (aKey [114,111,111,116])) (writA (0,0))):=good_putA Trie.Good.nil (n := [114,111,111,116]) (by simp) (p:=(0,0)) (by simp) (by simp)
 have hA : ∀ m,acc (put .nil (Nib.of (aKey [114,111,111,116])) (writA (0,0))) m = if m = [114,111,111,116] then some (0,0) else acc .nil m:=fun m=>acc_putA Trie.Good.nil (by simp) (p:=(0,0)) (by unfold maxA; simp) (by unfold maxA; simp) m
 have hB : acc (put (put .nil (Nib.of (aKey [114,111,111,116])) (writA (0,0))) (Nib.of sKey) (digM wV)) [114,111,111,116] = some (0,0):=by
  rw [acc_put g1 keyed_s (ne_nil_of (by omega)) _ (aKey_sKey _),hA,if_pos rfl]
 generalize put (put .nil (Nib.of (aKey [114,111,111,116])) (writA (0,0))) (Nib.of sKey) (digM wV) = t at *
 obtain ⟨hgood,hcnt⟩:=hgd
 simp only at hgood hcnt
 have hk : kindW t wX4 (0,0) (0,0) = (put t (Nib.of sKey) (digM wN),0,0):=by
  unfold kindW
  rw [if_neg (by decide),if_neg (by decide),if_neg (by decide),if_pos (by rfl)]
  rfl
 have hd : (doW t wX4).2 = 0:=by
  have e1 : acc t wX4.frm = some (0,0):=hB
  have e2 : accTo t wX4 = some (0,0):=by unfold accTo; rw [if_neg (by decide)]
  unfold doW
  rw [if_neg (by rw [wX4_fine]; decide),e1,e2]
  simp only
  rw [if_neg (by decide),hk,if_pos rfl]
 have hL:=doL_few hgood (show count t ≤ 1000 by omega) wX4
 refine ⟨t,(doW t wX4).1, [(0, [114,111,111,116],0)],hg0, ?_⟩
 unfold allL
 rw [if_neg (by decide),if_neg (by simp [wX4_fine]),allGoL,allGoL,hL,hd]
 rfl
end Ex
namespace Led
open Trie Pw
theorem makeE_parts {l : List En} {p : En} {view : Int} {txs : List Ex.Tx} {u : T} {R : List Ex.Rc} {M : List Mem} (h : Ex.allL p.st txs = ((u,R,M),0)) :
  (makeE l p view txs).hd.epo = (if p.hd.last then p.hd.epo + 1 else p.hd.epo) ∧ (makeE l p view txs).hd.last = !M.isEmpty ∧ (makeE l p view txs).nxt = (if M.isEmpty then p.nxt else M) ∧ (makeE l p view txs).hd.hgt = p.hd.hgt + 1 ∧ (makeE l p view txs).hd.nxt = (if M.isEmpty then p.hd.nxt else digM M) ∧ (makeE l p view txs).hd.mem = p.hd.nxt:=by
 unfold makeE nextE nextH
 rw [h]
 exact ⟨rfl,rfl,rfl,rfl,rfl,rfl⟩
theorem add_ok {l : List En} {n : Nat} (hn : l.length = n + 1) {p : En} (hp : l[n]? = some p) {view : Int} {txs : List Ex.Tx} (h : makeC p view txs = 0) : addW l view txs = (l ++ [makeE l p view txs],0):=by
 have e : l[n]'(by omega) = p:=by rw [List.getElem?_eq_getElem (by omega)] at hp; exact Option.some.inj hp
 unfold addW
 rw [last_of hn,e]
 simp only
 rw [if_pos h]
theorem work20 : ∃ t e1 e2,Ex.genW Ex.wR Ex.wV = (t,0) ∧ addW [newE t Ex.wV] 1 [Ex.wX4] = ([newE t Ex.wV,e1],0) ∧ addW [newE t Ex.wV,e1] 1 [] = ([newE t Ex.wV,e1,e2],0) ∧ e1.hd.epo = 1 ∧ e1.hd.last = true ∧ e2.hd.epo = 2 ∧ e2.hd.mem = digM Ex.wN ∧ e2.hd.last = false ∧ e2.nxt = Ex.wN:=by
 obtain ⟨t,u,R,h1,h2⟩:=Ex.work_tx
 have c1 : makeC (newE t Ex.wV) 1 [Ex.wX4] = 0:=by
  unfold makeC
  rw [if_neg (by simp [newE,newH]),if_neg (by simp [newE,newH])]
  show (Ex.allL t [Ex.wX4]).2 = 0
  rw [h2]
 have a1:=add_ok (l := [newE t Ex.wV]) (n:=0) rfl rfl c1
 obtain ⟨q1,q2,q3,q4,q5,_⟩:=makeE_parts (l := [newE t Ex.wV]) (p:=newE t Ex.wV) (view:=1) (txs := [Ex.wX4]) h2
 generalize makeE [newE t Ex.wV] (newE t Ex.wV) 1 [Ex.wX4] = e1 at *
 have q1 : e1.hd.epo = 1:=q1
 have q2 : e1.hd.last = true:=q2
 have q3 : e1.nxt = Ex.wN:=q3
 have q4 : e1.hd.hgt = 1:=q4
 have q5 : e1.hd.nxt = digM Ex.wN:=q5
 have c2 : makeC e1 1 [] = 0:=by
  unfold makeC
  rw [q4,q2,if_neg (by decide),if_neg (by simp)]
  rfl
 have a2:=add_ok (l := [newE t Ex.wV,e1]) (n:=1) rfl rfl c2
 obtain ⟨r1,r2,r3,_,_,r6⟩:=makeE_parts (l := [newE t Ex.wV,e1]) (p:=e1) (view:=1) (txs := []) (u:=e1.st) (R := []) (M := []) rfl
 generalize makeE [newE t Ex.wV,e1] e1 1 [] = e2 at *
 rw [q2,q1] at r1
 rw [q3] at r3
 rw [q5] at r6
 exact ⟨t,e1,e2,h1,a1,a2,q1,q2,r1,r6,r2,r3⟩
end Led
end Go.Proofs.YtnelhjfjkkdoaaaGreatDoor
