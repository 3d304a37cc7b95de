import Derived.Test.YtnelhjfjkkdoaaaGreatDoorJ20
import Derived.Test.YtnelhjfjkkdoaaaGreatDoorJ14
set_option linter.unusedSimpArgs false
set_option linter.unusedVariables false
namespace Go.Proofs.YtnelhjfjkkdoaaaGreatDoor
open Go.RowKit Go.Instr
attribute [local go_sem] ba_get ByteArray.mk_append_mk
theorem encW_len {c q : Int} {f : List UInt8} (h : rcOk c f q) : (encW c f q).1 ≠ [] ∧ (encW c f q).1.length ≤ 32:=by
 obtain ⟨h1,h2,h3,h4,h5,h6⟩:=id h
 have a1:=beB_len 2 c.toNat (by omega)
 have a2:=beB_len 1 f.length (by omega)
 have a3:=beB_len 6 q.toNat (by omega)
 rw [encW,if_pos h]
 refine ⟨by simp [numW], ?_⟩
 simp only [numW,textW,List.length_append,List.length_cons]
 omega
def rcells (l : List (Int × List UInt8 × Int)) : List Value:=l.flatMap fun x => [.int .i64 x.1,.string ⟨x.2.1.toArray⟩,.int .i64 x.2.2]
theorem rcells_at {l : List (Int × List UInt8 × Int)} {i : Nat} (h : i < l.length) : (rcells l)[3 * i]? = some (.int .i64 l[i].1) ∧ (rcells l)[3 * i + 1]? = some (.string ⟨l[i].2.1.toArray⟩) ∧ (rcells l)[3 * i + 2]? = some (.int .i64 l[i].2.2):=by
 induction l generalizing i with
 | nil=>simp at h
 | cons a l ih =>
  rcases i with _ | i
  ·simp [rcells]
  ·have:=ih (show i < l.length by simpa using h)
   rw [show 3 * (i + 1) = 3 * i + 1 + 1 + 1 by omega]
   simpa [rcells] using this
theorem rcells_length (l : List (Int × List UInt8 × Int)) : (rcells l).length = 3 * l.length:=by
 induction l with
 | nil=>rfl
 | cons a l ih =>
  rw [show rcells (a :: l) = .int .i64 a.1 :: .string ⟨a.2.1.toArray⟩ :: .int .i64 a.2.2 :: rcells l from rfl,List.length_cons,List.length_cons,List.length_cons,ih,List.length_cons]; omega
def treeW : Trie.T → Nat → List (Int × List UInt8 × Int) → Trie.T × Nat
 | t,k, []=>(t,0)
 | t,k,x :: l=>if rcOk x.1 x.2.1 x.2.2 then treeW (Trie.put t (Nib.of [UInt8.ofNat k]) (encW x.1 x.2.1 x.2.2).1) (k + 1) l else (.nil,3)
theorem put_receipt {c q : Int} {f : List UInt8} (h : rcOk c f q) (k : UInt8) : Trie.putCode [k] (encW c f q).1 = 0:=by
 have:=encW_len h
 unfold Trie.putCode Trie.keyedW
 rw [if_pos (by simp),if_neg]
 simp
 exact this
set_option maxRecDepth 100000 in
theorem receipt_key (k : Nat) (hk : k < 256) (w : World) :
  Calls Tryz.prog 76 #[.int .i64 (k : Int)] w fun e w'=>e = .returned (.string ⟨#[UInt8.ofNat k]⟩) ∧ Below w.heap.size w w':=by
 have HP : Hid (∀ w',Below w.heap.size w w' → (fun e w'=>e = Ending.returned (.string ⟨#[UInt8.ofNat k]⟩) ∧ Below w.heap.size w w') (Ending.returned (.string ⟨#[UInt8.ofNat k]⟩)) w'):=Lib.hid (fun w' hb=>⟨rfl,hb⟩)
 generalize (fun e w'=>e = Ending.returned (.string ⟨#[UInt8.ofNat k]⟩) ∧ Below w.heap.size w w') = P at HP ⊢
 have cv:=conv1d w (k : Int) (by omega) (by omega)
 have cv2:=conv1 w (k : Int) (by omega) (by omega)
 rw [show UInt8.ofNat ((k : Int)).toNat = UInt8.ofNat k by congr 1] at cv cv2
 have ew : (k : Int) % 256 = (k : Int):=by omega
 rw [← ew] at cv cv2
 clear ew hk
 have HG : Hid (∀ f,Below w.heap.size w (w.alloc (.cells f 5))):=Lib.hid (fun f=>by go_grown)
 go_enter Tryz.func76,Tryz.ntmps76
 go_wp2
 exact HP.out _ (HG.out _)
set_option maxRecDepth 100000 in
set_option maxHeartbeats 1000000 in
theorem receipt_tree (l : List (Int × List UInt8 × Int)) (hl : l.length ≤ 8) (hs : ∀ x ∈ l,x.2.1.length ≤ 9223372036854775807) (w : World) (hT : Tbl w) (A : Option Addr) (c : Nat) (HR : Reads w w.heap.size 3 A l.length (rcells l)) :
  Calls Tryz.prog 75 #[.slice A l.length c] w (TPutEnd w (treeW .nil 0 l).1 (treeW .nil 0 l).2):=by
 have HP : Hid (∀ (t' : Trie.T) (c : Nat) v' w',treeW .nil 0 l = (t',c) → Below w.heap.size w w' → (c = 0 → TrieP w' t' v') → (c ≠ 0 → v' = .pointer none) → TPutEnd w (treeW .nil 0 l).1 (treeW .nil 0 l).2 (.returned (.tuple #[v',.int .i64 (c : Int)])) w'):=Lib.hid (fun t' c v' w' h1 h2 h3 h4=>⟨v',by rw [h1],h2,by rw [h1]; exact h3,by rw [h1]; exact h4⟩)
 generalize TPutEnd w (treeW .nil 0 l).1 (treeW .nil 0 l).2 = P at HP ⊢
 have HRR:=Lib.hid HR
 have HS:=Lib.hid hs
 have HTb:=Lib.hid hT
 have HL:=Lib.hid hl
 have hl1 : ((8 : Int) < (l.length : Int)) = False:=by simp; omega
 clear HR hs hT
 go_enter Tryz.func75,Tryz.ntmps75
 go_wp2_with (go_at_call 11; refine (trie_New _).mono ?_; rintro e w1 ⟨v0,rfl,hk0,hb0⟩; have H0:=Lib.hid (And.intro hk0 hb0); clear hk0 hb0)
 refine wp_loop_ghost_k (fun k a wr => ∀ Φ : Act → Prop,(∀ (s1 s2 s3 s5 s6 s7 s8 s9 s10 s11 s12 s15 s16 s17 s18 s19 s20 s21 s22 s23 s24 s25 s26 s27 s28 s29 s30 s31 s32 s33 s34 s35 s36 s37 s38 s39 s40 : Value) (i : Nat) (t : Trie.T) (v : Value),(i + k = l.length ∧ treeW .nil 0 l = treeW t i (l.drop i) ∧ Trie.count t ≤ i ∧ TrieP wr t v ∧ Below w.heap.size w wr) → Φ { tmps:=#[.slice A l.length c,s1,s2,s3,v,s5,s6,s7,s8,s9,s10,s11,s12,.int .i64 l.length,.int .i64 (i : Int),s15,s16,s17,s18,s19,s20,s21,s22,s23,s24,s25,s26,s27,s28,s29,s30,s31,s32,s33,s34,s35,s36,s37,s38,s39,s40],defers := [] }) → Φ a) (l.length) ?_ ?_
 ·refine fun Φ hΦ=>hΦ _ _ _ _ _ _ _ _ _ _ _ _ _ _ _ _ _ _ _ _ _ _ _ _ _ _ _ _ _ _ _ _ _ _ _ _ _ (0) (.nil) (v0) ?_
  exact ⟨by omega,rfl,by simp [Trie.count],H0.out.1,H0.out.2⟩
 ·intro k1 a1 wr1 hI1 J1 K1 hJ1 hK1
  refine hI1 (fun a=>Code.wp _ _ _ a _) ?_
  clear hI1 a1
  intro s0 s1 s2 s3 s4 s5 s6 s7 s8 s9 s10 s11 s12 s13 s14 s15 s16 s17 s18 s19 s20 s21 s22 s23 s24 s25 s26 s27 s28 s29 s30 s31 s32 s33 s34 s35 s36 i t v hrel
  show Code.wp _ _ _ _ _
  obtain ⟨h1,h2,h3,hk,hb⟩:=hrel
  by_cases hi : i < l.length
  ·obtain ⟨ad,off,rfl,hbl,hcell⟩:=HRR.out.form (by omega) (by omega)
   have ic:=rcells_at hi
   have hil:=rcells_length l
   have e0 : (rcells l)[3 * i]'(by omega) = .int .i64 l[i].1:=by
    have:=ic.1; rw [List.getElem?_eq_getElem (by omega)] at this; exact Option.some.inj this
   have e1 : (rcells l)[3 * i + 1]'(by omega) = .string ⟨l[i].2.1.toArray⟩:=by
    have:=ic.2.1; rw [List.getElem?_eq_getElem (by omega)] at this; exact Option.some.inj this
   have e2 : (rcells l)[3 * i + 2]'(by omega) = .int .i64 l[i].2.2:=by
    have:=ic.2.2; rw [List.getElem?_eq_getElem (by omega)] at this; exact Option.some.inj this
   have q0:=hcell (3 * i) (by omega)
   have q1:=hcell (3 * i + 1) (by omega)
   have q2:=hcell (3 * i + 2) (by omega)
   rw [e0] at q0
   rw [e1] at q1
   rw [e2] at q2
   have r0 : wr1.cell? ⟨ad,off + i * 3,none⟩ = some (.int .i64 l[i].1):=by rw [show i * 3 = 3 * i by omega]; exact (hb.cell (p:=⟨ad,off + 3 * i,none⟩) hbl).trans q0
   have r1 : wr1.cell? ⟨ad,off + i * 3 + 1,none⟩ = some (.string ⟨l[i].2.1.toArray⟩):=by rw [show off + i * 3 + 1 = off + (3 * i + 1) by omega]; exact (hb.cell (p:=⟨ad,off + (3 * i + 1),none⟩) hbl).trans q1
   have r2 : wr1.cell? ⟨ad,off + i * 3 + 2,none⟩ = some (.int .i64 l[i].2.2):=by rw [show off + i * 3 + 2 = off + (3 * i + 2) by omega]; exact (hb.cell (p:=⟨ad,off + (3 * i + 2),none⟩) hbl).trans q2
   have hi1 : (i : Int) < l.length:=by omega
   have hi0 : (0 : Int) ≤ i:=by omega
   have hd : l.drop i = l[i] :: l.drop (i + 1):=List.drop_eq_getElem_cons hi
   have hlen:=HS.out _ (List.getElem_mem hi)
   have HI:=Lib.hid (And.intro h1 (And.intro h2 (And.intro h3 (And.intro hk (And.intro hb hd)))))
   have HI8:=Lib.hid (show i < 8 from Nat.lt_of_lt_of_le hi HL.out)
   clear ic hil e0 e1 e2 q0 q1 q2 h1 h2 h3 hk hb hcell hd
   generalize l[i] = x at *
   obtain ⟨rc,rf,rq⟩:=x
   have HEnc : Hid (∀ W,Calls Tryz.prog 117 #[.agg #[.int .i64 rc,.string ⟨rf.toArray⟩,.int .i64 rq]] W (REncEnd W (encW rc rf rq))):=Lib.hid (fun W=>receipt_Encode rc rf rq hlen W)
   have HKey : Hid (∀ W,Calls Tryz.prog 76 #[.int .i64 (i : Int)] W fun e w'=>e = .returned (.string ⟨#[UInt8.ofNat i]⟩) ∧ Below W.heap.size W w'):=Lib.hid (fun W=>receipt_key i (Nat.lt_trans HI8.out (by omega)) W)
   by_cases hok : rcOk rc rf rq
   ·have hen:=encW_len hok
    have hpc:=put_receipt hok (UInt8.ofNat i)
    have HPut : Hid (∀ W,Below wr1.heap.size wr1 W → Calls Tryz.prog 13 #[v,.string ⟨#[UInt8.ofNat i]⟩,.string ⟨(encW rc rf rq).1.toArray⟩] W (TPutEnd W (Trie.put t (Nib.of [UInt8.ofNat i]) (encW rc rf rq).1) 0)):=Lib.hid (fun W hW=>by
     rw [← hpc]
     exact trie_Put W t v (HI.out.2.2.2.1.next hW) (by have:=HI.out.2.2.1; have:=HI8.out; omega) (HTb.out.next (HI.out.2.2.2.2.1.nxt hW)) [UInt8.ofNat i] (encW rc rf rq).1 (by simp) (by omega))
    have HQ : Hid (treeW t i (l.drop i) = treeW (Trie.put t (Nib.of [UInt8.ofNat i]) (encW rc rf rq).1) (i + 1) (l.drop (i + 1))):=Lib.hid (by rw [HI.out.2.2.2.2.2,treeW,if_pos hok])
    have HCn : Hid (Trie.count (Trie.put t (Nib.of [UInt8.ofNat i]) (encW rc rf rq).1) ≤ i + 1):=Lib.hid (by have:=Trie.count_put t (Nib.of [UInt8.ofNat i]) (encW rc rf rq).1; have:=HI.out.2.2.1; omega)
    have he2 : (encW rc rf rq).2 = 0:=by rw [encW,if_pos hok]
    unfold REncEnd at HEnc
    rw [he2] at HEnc
    clear hen hpc hok hlen he2
    generalize Trie.put t (Nib.of [UInt8.ofNat i]) (encW rc rf rq).1 = t2 at *
    generalize (encW rc rf rq).1 = bytes at *
    go_wp2_with fail
    refine (HEnc.out _).mono ?_
    rintro e w2 ⟨rfl,hb2⟩
    have HB2:=Lib.hid hb2
    clear hb2
    go_wp2_with fail
    refine (HKey.out _).mono ?_
    rintro e w3 ⟨rfl,hb3⟩
    have HB3:=Lib.hid (HB2.out.nxt hb3)
    clear hb3
    go_wp2_with fail
    refine (HPut.out _ HB3.out).mono ?_
    rintro e w4 ⟨v3,rfl,hb4,hk3,hn3⟩
    have HB4:=Lib.hid (And.intro (HB3.out.nxt hb4) (hk3 (by first | exact trivial | rfl)))
    clear hb4 hk3 hn3
    go_wp2_with fail
    refine Handed.intro (l.length - (i + 1)) ?_ (hJ1 _ _ _ (fun Φ hΦ=>hΦ _ _ _ _ _ _ _ _ _ _ _ _ _ _ _ _ _ _ _ _ _ _ _ _ _ _ _ _ _ _ _ _ _ _ _ _ _ (i + 1) (t2) (v3) ?_))
    ·have:=HI.out.1; omega
    exact ⟨by have:=HI.out.1; omega,HI.out.2.1.trans HQ.out,HCn.out,HB4.out.2,HI.out.2.2.2.2.1.nxt HB4.out.1⟩
   ·have HQ : Hid (treeW t i (l.drop i) = (.nil,3)):=Lib.hid (by rw [HI.out.2.2.2.2.2,treeW,if_neg hok])
    have he2 : encW rc rf rq = ([],3):=by rw [encW,if_neg hok]
    rw [he2] at HEnc
    clear hok hlen he2
    go_wp2_with fail
    refine (HEnc.out _).mono ?_
    rintro e w2 ⟨rfl,hb2⟩
    have HB2:=Lib.hid hb2
    clear hb2
    go_wp2_with fail
    exact HP.out .nil 3 _ _ (HI.out.2.1.trans HQ.out) (HI.out.2.2.2.2.1.nxt HB2.out) (fun h=>by cases h) (fun _=>rfl)
  ·have hi1 : ((i : Int) < l.length) = False:=by simp; omega
   have HQ : Hid (treeW t i (l.drop i) = (t,0)):=Lib.hid (by rw [List.drop_of_length_le (by omega),treeW])
   have HI:=Lib.hid (And.intro h2 (And.intro hk hb))
   clear h1 h2 h3 hk hb hi
   go_wp2_with fail
   exact HP.out _ _ _ _ (HI.out.1.trans HQ.out) HI.out.2.2 (fun _=>HI.out.2.1) (fun h=>absurd rfl h)
def RRootEnd (w : World) (r : Trie.T × Nat) (e : Ending) (w' : World) : Prop:=e = .returned (.tuple #[.string ⟨(if r.2 = 0 then Trie.sumT r.1 else []).toArray⟩,.int .i64 (r.2 : Int)]) ∧ Below w.heap.size w w'
end Go.Proofs.YtnelhjfjkkdoaaaGreatDoor
