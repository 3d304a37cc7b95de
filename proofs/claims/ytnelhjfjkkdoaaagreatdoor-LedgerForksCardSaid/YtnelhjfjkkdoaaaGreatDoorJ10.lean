import Derived.Test.YtnelhjfjkkdoaaaGreatDoorJ09
import Derived.Test.YtnelhjfjkkdoaaaGreatDoorJ07
set_option linter.unusedSimpArgs false
set_option linter.unusedVariables false
namespace Go.Proofs.YtnelhjfjkkdoaaaGreatDoor
open Go.RowKit Go.Instr
attribute [local go_sem] ba_get ByteArray.mk_append_mk
theorem fineN_parts {k : Nat} {p v : List UInt8} {K : List (List UInt8)} (h : fineN k p v K = true) : (k = 1 ∨ k = 2 ∨ k = 3) ∧ Nib.fit p = true ∧ p.length ≤ 16 ∧ v.length ≤ 32 ∧ sumsOk (kidsW K) = true:=by
 unfold fineN at h
 split at h
 ·rename_i hk
  simp [pathOk] at h
  obtain ⟨⟨⟨h1,h2⟩,h3⟩,h4⟩:=h
  refine ⟨.inl hk,h2.1,h2.2,h4, ?_⟩
  rw [h1]; rfl
 ·split at h
  ·rename_i _ hk
   simp only [pathOk,Bool.and_eq_true,decide_eq_true_eq] at h
   obtain ⟨⟨⟨h1,h2⟩,h3⟩,h4⟩:=h
   have h4' : v = []:=by simpa using h4
   refine ⟨.inr (.inl hk),h3.1,h3.2.2,by rw [h4']; simp, ?_⟩
   rw [h1]
   generalize K.getD 0 [] = s at *
   have h5 : s.length = 32:=by simpa [sumsOk] using h2
   have h6 : s.isEmpty = false:=by cases s <;> simp_all
   simp [kidsW,sumsOk,h6,h5]
  ·split at h
   ·rename_i _ _ hk
    simp only [Bool.and_eq_true,decide_eq_true_eq] at h
    obtain ⟨⟨⟨h1,h2⟩,h3⟩,h4⟩:=h
    have h1' : p = []:=by simpa using h1
    subst h1'
    exact ⟨.inr (.inr hk),rfl,by simp,h4,h2⟩
   ·cases h
theorem fine_ext {p v : List UInt8} {K : List (List UInt8)} (h : fineN 2 p v K = true) : (K.getD 0 []).length = 32 ∧ K = K.getD 0 [] :: List.replicate 15 []:=by
 unfold fineN at h
 rw [if_neg (by omega),if_pos rfl] at h
 simp only [Bool.and_eq_true,decide_eq_true_eq] at h
 obtain ⟨⟨⟨h1,h2⟩,h3⟩,h4⟩:=h
 refine ⟨?_,h1⟩
 clear h1
 generalize K.getD 0 [] = s at *
 simpa [sumsOk] using h2
theorem nodeText_len {k : Nat} {p v : List UInt8} {K : List (List UInt8)} (hK : K.length = 16) (h : fineN k p v K = true) : (nodeText k p v K).length ≤ 700:=by
 obtain ⟨h1,h2,h3,h4,h5⟩:=fineN_parts h
 have hl1:=textW_len v (by omega)
 have hl2:=textW_len (Nib.packed p (decide (k = 1))) (by rw [Nib.packed_length]; omega)
 rw [Nib.packed_length] at hl2
 have hf:=flatten_len _ (kidsW_32 h5)
 have hk16 : (kidsW K).length ≤ 16:=by
  have:=List.length_filter_le (fun s : List UInt8 => !s.isEmpty) K
  unfold kidsW; omega
 have:=Nat.mul_le_mul_right 32 hk16
 unfold nodeText
 split
 ·simp only [List.length_cons,List.length_append]; omega
 ·rename_i hk3
  simp only [List.length_cons,List.length_append]
  split
  ·omega
  ·rename_i hk1
   have hk2 : k = 2:=by omega
   subst hk2
   have:=(fine_ext h).1
   omega
def nodeSum (k : Nat) (p v : List UInt8) (K : List (List UInt8)) : List UInt8:=shaW (1 :: nodeText k p v K)
def DigEnd (w : World) (s : List UInt8) (e : Ending) (w' : World) : Prop:=e = .returned (.string ⟨s.toArray⟩) ∧ Below w.heap.size w w'
set_option maxRecDepth 100000 in
set_option maxHeartbeats 1000000 in
theorem node_Digest (k : Nat) (p v : List UInt8) (K : List (List UInt8)) (hK : K.length = 16) (hKs : ∀ s ∈ K,s.length ≤ 9223372036854775807) (hf : fineN k p v K = true) (w : World) (hT : Tbl w) :
  Calls Tryz.prog 164 #[.agg (nodeV k p v K).toArray] w (DigEnd w (nodeSum k p v K)):=by
 have HP : Hid (∀ w',Below w.heap.size w w' → DigEnd w (nodeSum k p v K) (.returned (.string ⟨(nodeSum k p v K).toArray⟩)) w'):=Lib.hid (fun w' h2=>⟨rfl,h2⟩)
 have HC:=node_Encode k p v K hK hKs hf
 have hl:=nodeText_len hK hf
 have HD : ∀ w,Tbl w → Calls Tryz.prog 85 #[.int .i64 1,.string ⟨(nodeText k p v K).toArray⟩] w fun e w'=>e = .returned (.tuple #[.string ⟨(nodeSum k p v K).toArray⟩,.int .i64 0]) ∧ Below w.heap.size w w':=fun w h=>digest_Sum w 1 (by omega) (by omega) _ (by omega) h
 have HSz:=Lib.hid (nodeV_size (k:=k) (p:=p) (v:=v) hK)
 clear hf
 generalize DigEnd w (nodeSum k p v K) = P at HP ⊢
 generalize nodeSum k p v K = S at *
 generalize nodeText k p v K = T at *
 have HTb:=Lib.hid hT
 clear hT
 go_enter Tryz.func164,Tryz.ntmps164
 go_upto_region 1 with fail
 have SZ : (Tryz.prog.info? 133).map (·.size) = some (nodeV k p v K).length:=by rw [HSz.out]; exact info_node
 have F0 : Hid (Blk (w.alloc (.cells (nodeV k p v K).toArray 133)) w.heap.size 133 (nodeV k p v K).toArray ∧ Below w.heap.size w (w.alloc (.cells (nodeV k p v K).toArray 133))):=Lib.hid ⟨Blk.new _ _ _,by go_grown⟩
 generalize w.alloc (.cells (nodeV k p v K).toArray 133) = W0 at F0 ⊢
 have HB:=Lib.hid (show w.heap.size < W0.heap.size from F0.out.1.lt)
 obtain ⟨_,_,_,_,RA⟩:=NodeAt.of (C := []) (by rw [List.append_nil]; exact F0.out.1)
 have HT0 : Hid (Tbl W0):=Lib.hid (HTb.out.next F0.out.2)
 generalize hB : w.heap.size = B at *
 clear hB
 go_upto_region 2 with (first | (refine wpList_load_mid rfl 133 _ rfl B 0 rfl _ _ RA Tryz.underlying133 rfl SZ ?_) | (go_at_call 163; refine (HC _).mono ?_; rintro e w1 ⟨rfl,hb⟩))
 have F1:=Lib.hid (show Below B w w1 from F0.out.2.trans (hb.mono (Nat.le_of_lt HB.out)))
 have HB1:=Lib.hid (Nat.lt_of_lt_of_le HB.out hb.size)
 have HT1 : Hid (Tbl w1):=Lib.hid (HT0.out.next hb)
 clear hb RA
 go_wp2_with (go_at_call 85; refine (HD _ HT1.out).mono ?_; rintro e w2 ⟨rfl,hb⟩)
 exact HP.out _ (F1.out.trans (hb.mono (Nat.le_of_lt HB1.out)))
end Go.Proofs.YtnelhjfjkkdoaaaGreatDoor
namespace Go.Proofs.YtnelhjfjkkdoaaaGreatDoor
namespace Trie
open Nib
inductive T where
 | nil
 | leaf (p v : List UInt8)
 | ext (p : List UInt8) (t : T)
 | branch (v : List UInt8) (kids : Fin 16 → T)
def isNil : T → Bool
 | .nil=>true
 | _=>false
def isBranch : T → Bool
 | .branch _ _=>true
 | _=>false
def ix (b : UInt8) : Fin 16:=⟨b.toNat % 16,Nat.mod_lt _ (by omega)⟩
def setKid (kids : Fin 16 → T) (b : UInt8) (t : T) : Fin 16 → T:=fun i=>if i = ix b then t else kids i
def noKids : Fin 16 → T:=fun _=>.nil
def look : T → List UInt8 → List UInt8
 | .nil,_ => []
 | .leaf p v,q=>if q = p then v else []
 | .ext p t,q=>if common p q = p.length then look t (q.drop p.length) else []
 | .branch v kids,q=>match q with
  | []=>v
  | b :: r=>look (kids (ix b)) r
def joined (path : List UInt8) (t : T) : T :=
 if path = [] then t else match t with
  | .leaf p v=>.leaf (path ++ p) v
  | .ext p s=>.ext (path ++ p) s
  | t=>.ext path t
def oneOwn (old : List UInt8) (w : List UInt8) : List UInt8:=match old with
 | []=>w
 | _ :: _ => []
def oneKids (old : List UInt8) (f : List UInt8 → T) : Fin 16 → T:=match old with
 | []=>noKids
 | b :: r=>setKid noKids b (f r)
def partedG (old : List UInt8) (f : List UInt8 → T) (w path v : List UInt8) : T:=match path with
 | []=>.branch v (oneKids old f)
 | b :: r=>.branch (oneOwn old w) (setKid (oneKids old f) b (.leaf r v))
def parted (t : T) (c : Nat) (path v : List UInt8) : T:=match t with
 | .leaf p w=>partedG (p.drop c) (fun r=>.leaf r w) w path v
 | .ext p s=>partedG (p.drop c) (fun r=>joined r s) [] path v
 | t=>t
def put : T → List UInt8 → List UInt8 → T
 | .nil,q,v=>.leaf q v
 | .branch w kids,q,v=>match q with
  | []=>.branch v kids
  | b :: r=>.branch w (setKid kids b (put (kids (ix b)) r v))
 | .ext p t,q,v=>if common p q = p.length then joined p (put t (q.drop (common p q)) v) else joined (q.take (common p q)) (parted (.ext p t) (common p q) (q.drop (common p q)) v)
 | .leaf p w,q,v=>if common p q = p.length ∧ common p q = q.length then .leaf q v else joined (q.take (common p q)) (parted (.leaf p w) (common p q) (q.drop (common p q)) v)
def many (kids : Fin 16 → T) : Nat:=((List.finRange 16).filter fun i => !isNil (kids i)).length
def lastKid (kids : Fin 16 → T) : Fin 16:=(((List.finRange 16).filter fun i => !isNil (kids i)).getLast?).getD 0
def shrunk (v : List UInt8) (kids : Fin 16 → T) : T :=
 if many kids = 0 then .leaf [] v
 else if many kids = 1 ∧ v = [] then joined [UInt8.ofNat (lastKid kids).val] (kids (lastKid kids))
 else .branch v kids
def del : T → List UInt8 → T
 | .nil,_=>.nil
 | .leaf _ _,_=>.nil
 | .ext p t,q=>joined p (del t (q.drop p.length))
 | .branch v kids,q=>match q with
  | []=>shrunk [] kids
  | b :: r=>shrunk v (setKid kids b (del (kids (ix b)) r))
def wf : T → Prop
 | .nil=>True
 | .leaf p v=>fit p = true ∧ v ≠ []
 | .ext p t=>fit p = true ∧ p ≠ [] ∧ isBranch t = true ∧ wf t
 | .branch v kids=>(∀ i,wf (kids i)) ∧ 2 ≤ many kids + (if v = [] then 0 else 1)
theorem fit_append {a b : List UInt8} : fit (a ++ b) = true ↔ fit a = true ∧ fit b = true:=by
 unfold fit; rw [List.all_append,Bool.and_eq_true]
theorem fit_cons' {a : UInt8} {r : List UInt8} : fit (a :: r) = true ↔ a ≤ 15 ∧ fit r = true:=by
 unfold fit; simp
theorem fit_drop {a : List UInt8} (n : Nat) (h : fit a = true) : fit (a.drop n) = true:=by
 have : fit (a.take n ++ a.drop n) = true:=by rw [List.take_append_drop]; exact h
 exact (fit_append.1 this).2
theorem fit_take {a : List UInt8} (n : Nat) (h : fit a = true) : fit (a.take n) = true:=by
 have : fit (a.take n ++ a.drop n) = true:=by rw [List.take_append_drop]; exact h
 exact (fit_append.1 this).1
theorem ix_of (i : Fin 16) : ix (UInt8.ofNat i.val) = i ∧ UInt8.ofNat i.val ≤ 15:=by
 have:=i.isLt
 constructor
 ·apply Fin.ext; simp [ix]
 ·rw [UInt8.le_iff_toNat_le]; simp; omega
theorem ix_inj {a b : UInt8} (ha : a ≤ 15) (hb : b ≤ 15) (h : ix a = ix b) : a = b:=by
 rw [UInt8.le_iff_toNat_le] at ha hb
 simp at ha hb
 have:=congrArg Fin.val h
 simp [ix] at this
 exact UInt8.toNat_inj.1 (by omega)
theorem prefix_common {p q : List UInt8} : common p q = p.length ↔ q = p ++ q.drop p.length:=by
 constructor
 ·intro h
  have h1:=(common_take p q p.length).1 (by omega)
  conv=>lhs; rw [← List.take_append_drop p.length q,← h1.2.2]
  simp
 ·intro h
  have hcl:=common_le p q
  have : p.length ≤ common p q:=by
   rw [common_take]
   refine ⟨Nat.le_refl _, ?_, ?_⟩
   ·rw [h]; simp
   ·rw [h]; simp
  omega
theorem common_self_append (p r : List UInt8) : common p (p ++ r) = p.length:=prefix_common.2 (by simp)
theorem many_two {kids : Fin 16 → T} {v : List UInt8} (h : 2 ≤ many kids + (if v = [] then 0 else 1)) (b : UInt8) : v ≠ [] ∨ ∃ i,i ≠ ix b ∧ isNil (kids i) = false:=by
 by_cases hv : v = []
 ·right
  rw [if_pos hv] at h
  unfold many at h
  have hn : ((List.finRange 16).filter fun i => !isNil (kids i)).Nodup:=(List.nodup_finRange 16).sublist List.filter_sublist
  generalize hl : ((List.finRange 16).filter fun i => !isNil (kids i)) = l at *
  have hmem : ∀ i ∈ l,isNil (kids i) = false:=by
   intro i hi
   rw [← hl,List.mem_filter] at hi
   simpa using hi.2
  match l,h,hn with
  | x :: y :: l,_,hn =>
   by_cases hx : x = ix b
   ·refine ⟨y,fun e => ?_,hmem y (by simp)⟩
    rw [List.nodup_cons] at hn
    exact hn.1 (by rw [hx,← e]; simp)
   ·exact ⟨x,hx,hmem x (by simp)⟩
 ·exact .inl hv
theorem look_some (t : T) : wf t → isNil t = false → ∃ q,fit q = true ∧ look t q ≠ []:=by
 induction t with
 | nil=>intro _ h; simp [isNil] at h
 | leaf p v=>intro h _; exact ⟨p,h.1,by simp [look]; exact h.2⟩
 | ext p t ih =>
  intro h _
  obtain ⟨h1,h2,h3,h4⟩:=h
  obtain ⟨q,g1,g2⟩:=ih h4 (by cases t <;> simp_all [isBranch,isNil])
  refine ⟨p ++ q,fit_append.2 ⟨h1,g1⟩, ?_⟩
  simp only [look,common_self_append,if_pos]
  simpa using g2
 | branch v kids ih =>
  intro h _
  rcases many_two h.2 0 with hv | ⟨i,_,hi⟩
  ·exact ⟨[],rfl,hv⟩
  ·obtain ⟨q,g1,g2⟩:=ih i (h.1 i) hi
   obtain ⟨e1,e2⟩:=ix_of i
   exact ⟨UInt8.ofNat i.val :: q,fit_cons'.2 ⟨e2,g1⟩,by simp only [look,e1]; exact g2⟩
theorem branch_of {t : T} (h : isBranch t = true) : ∃ v kids,t = .branch v kids:=by
 cases t with
 | branch v kids=>exact ⟨v,kids,rfl⟩
 | nil=>simp [isBranch] at h
 | leaf _ _=>simp [isBranch] at h
 | ext _ _=>simp [isBranch] at h
theorem look_ext_some {p : List UInt8} {t : T} {q : List UInt8} (h : look (.ext p t) q ≠ []) : q = p ++ q.drop p.length ∧ look t (q.drop p.length) ≠ []:=by
 simp only [look] at h
 split at h
 ·rename_i hc; exact ⟨prefix_common.1 hc,h⟩
 ·exact absurd rfl h
theorem look_ext (p : List UInt8) (t : T) (r : List UInt8) : look (.ext p t) (p ++ r) = look t r:=by
 simp [look,common_self_append]
end Trie
namespace Trie
open Nib
theorem joined_look (path : List UInt8) (t : T) (h : t ≠ .nil) : ∀ q, look (joined path t) q = if q = path ++ q.drop path.length then look t (q.drop path.length) else [] := by
  intro q
  by_cases hp : path = []
  · subst hp; simp [joined]
  · have hcm : common path q = path.length ↔ q = path ++ q.drop path.length := prefix_common
    cases t with
    | nil => exact absurd rfl h
    | leaf p v =>
      simp only [joined, if_neg hp, look]
      by_cases hq : q = path ++ q.drop path.length
      · rw [if_pos hq]
        by_cases h2 : q.drop path.length = p
        · rw [if_pos h2, if_pos (by rw [← h2]; exact hq)]
        · rw [if_neg h2, if_neg (fun e => h2 (by rw [e]; simp))]
      · rw [if_neg hq, if_neg (fun e => hq (by rw [e]; simp))]
    | ext p s =>
      simp only [joined, if_neg hp, look]
      by_cases hq : q = path ++ q.drop path.length
      · rw [if_pos hq]
        generalize q.drop path.length = r at hq
        subst hq
        by_cases h2 : common p r = p.length
        · have h3 := prefix_common.1 h2
          rw [if_pos h2, if_pos (prefix_common.2 (by rw [h3]; simp)), List.length_append, ← List.drop_drop, List.drop_append_of_le_length (Nat.le_refl _), List.drop_length, List.nil_append]
        · rw [if_neg h2, if_neg]
          intro h3
          have h4 := prefix_common.1 h3
          rw [List.append_assoc] at h4
          have h5 := List.append_cancel_left h4
          exact h2 (prefix_common.2 (by
            conv => lhs; rw [h5]
            congr 1
            rw [List.length_append, ← List.drop_drop, List.drop_append_of_le_length (Nat.le_refl _), List.drop_length, List.nil_append]))
      · rw [if_neg hq, if_neg]
        intro h3
        have h4 := prefix_common.1 h3
        exact hq (by conv => lhs; rw [h4]
                     conv => rhs; rw [h4]
                     simp)
    | branch v kids =>
      simp only [joined, if_neg hp]
      show look (.ext path _) q = _
      simp only [look]
      by_cases hq : q = path ++ q.drop path.length
      · rw [if_pos hq, if_pos (hcm.2 hq)]
      · rw [if_neg hq, if_neg (fun e => hq (hcm.1 e))]
theorem joined_wf {path : List UInt8} {t : T} (hp : fit path = true) (h : wf t) (hn : t ≠ .nil) : wf (joined path t):=by
 by_cases h0 : path = []
 ·subst h0; simpa [joined] using h
 ·cases t with
  | nil=>exact absurd rfl hn
  | leaf p v=>simp only [joined,if_neg h0]; exact ⟨fit_append.2 ⟨hp,h.1⟩,h.2⟩
  | ext p s=>simp only [joined,if_neg h0]; exact ⟨fit_append.2 ⟨hp,h.1⟩,by simp [h0],h.2.2⟩
  | branch v kids=>simp only [joined,if_neg h0]; exact ⟨hp,h0,rfl,h⟩
theorem joined_nn {path : List UInt8} {t : T} (hn : t ≠ .nil) : joined path t ≠ .nil:=by
 unfold joined
 split
 ·exact hn
 ·cases t <;> simp_all
theorem many_pos {kids : Fin 16 → T} {i : Fin 16} (h : isNil (kids i) = false) : 1 ≤ many kids:=by
 unfold many
 exact List.length_pos_of_mem (List.mem_filter.2 ⟨List.mem_finRange i,by simp [h]⟩)
theorem two_of {l : List (Fin 16)} {i j : Fin 16} (hi : i ∈ l) (hj : j ∈ l) (hne : i ≠ j) : 2 ≤ l.length:=by
 match l,hi,hj with
 | [x],hi,hj =>
  simp at hi hj
  exact absurd (hi.trans hj.symm) hne
 | x :: y :: l,_,_=>simp
theorem many_ge_two {kids : Fin 16 → T} {i j : Fin 16} (hi : isNil (kids i) = false) (hj : isNil (kids j) = false) (hne : i ≠ j) : 2 ≤ many kids :=
 two_of (List.mem_filter.2 ⟨List.mem_finRange i,by simp [hi]⟩) (List.mem_filter.2 ⟨List.mem_finRange j,by simp [hj]⟩) hne
theorem many_mono {k1 k2 : Fin 16 → T} (h : ∀ i,isNil (k1 i) = false → isNil (k2 i) = false) : many k1 ≤ many k2:=by
 unfold many
 have e : ((List.finRange 16).filter fun i => !isNil (k1 i)) = (((List.finRange 16).filter fun i => !isNil (k2 i))).filter fun i => !isNil (k1 i):=by
  rw [List.filter_filter]
  apply List.filter_congr
  intro i _
  cases h1 : isNil (k1 i) with
  | true=>rfl
  | false=>simp [h i h1]
 rw [e]
 exact List.length_filter_le _ _
theorem setKid_same (kids : Fin 16 → T) (b : UInt8) (t : T) : setKid kids b t (ix b) = t:=by simp [setKid]
theorem setKid_other {kids : Fin 16 → T} {b : UInt8} {t : T} {i : Fin 16} (h : i ≠ ix b) : setKid kids b t i = kids i:=by simp [setKid,h]
theorem partedG_spec (old w path v : List UInt8) (f : List UInt8 → T) (g : List UInt8 → List UInt8) (hfo : fit old = true) (hfp : fit path = true) (hv : v ≠ []) (hc : common old path = 0) (hnn : ¬ (old = [] ∧ path = []))
  (h0 : old = [] → w ≠ [] ∧ ∀ s,g s = if s = [] then w else [])
  (h1 : ∀ b r,old = b :: r → wf (f r) ∧ f r ≠ .nil ∧ (∀ s,fit s = true → look (f r) s = g (b :: s)) ∧ g [] = [] ∧ ∀ c s,c ≠ b → g (c :: s) = []) :
  wf (partedG old f w path v) ∧ (∀ r,fit r = true → look (partedG old f w path v) r = if r = path then v else g r) ∧ isBranch (partedG old f w path v) = true:=by
 have isn : ∀ t : T,t ≠ .nil → isNil t = false:=fun t h=>by cases t <;> simp_all [isNil]
 cases path with
 | nil =>
  cases old with
  | nil=>exact absurd ⟨rfl,rfl⟩ hnn
  | cons b r =>
   obtain ⟨k1,k2,k3,k4,k5⟩:=h1 b r rfl
   have hb:=(fit_cons'.1 hfo).1
   refine ⟨⟨fun i => ?_, ?_⟩,fun s hs => ?_,rfl⟩
   ·simp only [oneKids,setKid]; split
    ·exact k1
    ·trivial
   ·rw [if_neg hv]
    exact Nat.succ_le_succ (many_pos (i:=ix b) (by simp only [oneKids,setKid_same]; exact isn _ k2))
   ·cases s with
    | nil=>simp [partedG,look]
    | cons x s =>
     have hx:=fit_cons'.1 hs
     simp only [partedG,look,oneKids]
     rw [if_neg (by simp)]
     by_cases hxb : x = b
     ·subst hxb; rw [setKid_same]; exact k3 s hx.2
     ·rw [setKid_other (fun e=>hxb (ix_inj hx.1 hb e)),k5 x s hxb]; rfl
 | cons b r =>
  have hb:=fit_cons'.1 hfp
  cases old with
  | nil =>
   obtain ⟨k1,k2⟩:=h0 rfl
   refine ⟨⟨fun i => ?_, ?_⟩,fun s hs => ?_,rfl⟩
   ·simp only [oneKids,setKid]; split
    ·exact ⟨hb.2,hv⟩
    ·trivial
   ·rw [if_neg (show ¬ oneOwn [] w = [] from k1)]
    exact Nat.succ_le_succ (many_pos (i:=ix b) (by rw [setKid_same]; rfl))
   ·cases s with
    | nil=>simp [partedG,look,oneOwn,k2]
    | cons x s =>
     have hx:=fit_cons'.1 hs
     simp only [partedG,look,oneKids]
     rw [k2,if_neg (show ¬ (x :: s = []) by simp)]
     by_cases hxb : x = b
     ·subst hxb
      rw [setKid_same]
      simp only [look,List.cons.injEq,true_and]
     ·rw [setKid_other (fun e=>hxb (ix_inj hx.1 hb.1 e)),if_neg (by simp [hxb])]; rfl
  | cons a o =>
   obtain ⟨k1,k2,k3,k4,k5⟩:=h1 a o rfl
   have ha:=(fit_cons'.1 hfo).1
   have hab : a ≠ b:=by
    intro e; subst e; simp [common] at hc
   have hix : ix a ≠ ix b:=fun e=>hab (ix_inj ha hb.1 e)
   refine ⟨⟨fun i => ?_, ?_⟩,fun s hs => ?_,rfl⟩
   ·simp only [oneKids,setKid]; split
    ·exact ⟨hb.2,hv⟩
    ·split
     ·exact k1
     ·trivial
   ·exact Nat.le_add_right_of_le (many_ge_two (i:=ix a) (j:=ix b) (by rw [setKid_other hix]; simp only [oneKids]; rw [setKid_same]; exact isn _ k2) (by rw [setKid_same]; rfl) hix)
   ·cases s with
    | nil=>simp [partedG,look,oneOwn,k4]
    | cons x s =>
     have hx:=fit_cons'.1 hs
     simp only [partedG,look,oneKids]
     by_cases hxb : x = b
     ·subst hxb
      rw [setKid_same,k5 x s (fun e=>hab e.symm)]
      simp only [look,List.cons.injEq,true_and]
     ·rw [setKid_other (fun e=>hxb (ix_inj hx.1 hb.1 e)),if_neg (by simp [hxb])]
      by_cases hxa : x = a
      ·subst hxa; rw [setKid_same]; exact k3 s hx.2
      ·rw [setKid_other (fun e=>hxa (ix_inj hx.1 ha e)),k5 x s hxa]; rfl
theorem put_nn (t : T) (q v : List UInt8) : put t q v ≠ .nil:=by
 have pg : ∀ old f w path v,partedG old f w path v ≠ .nil:=by
  intro old f w path v; cases path <;> simp [partedG]
 induction t generalizing q with
 | nil=>simp [put]
 | leaf p w =>
  simp only [put]; split
  ·simp
  ·exact joined_nn (pg _ _ _ _ _)
 | ext p t ih =>
  simp only [put]; split
  ·exact joined_nn (ih _)
  ·exact joined_nn (pg _ _ _ _ _)
 | branch w kids ih=>cases q <;> simp [put]
theorem drop_common (p q : List UInt8) : common (p.drop (common p q)) (q.drop (common p q)) = 0:=by
 induction p generalizing q with
 | nil=>simp [common]
 | cons a p ih =>
  cases q with
  | nil=>simp [common]
  | cons b q =>
   by_cases h : a = b
   ·subst h
    rw [show common (a :: p) (a :: q) = common p q + 1 from by simp [common]]
    simpa using ih q
   ·rw [show common (a :: p) (b :: q) = 0 from by simp [common,h]]
    simp [common,h]
theorem take_common (p q : List UInt8) : p.take (common p q) = q.take (common p q):=((common_take p q (common p q)).1 (Nat.le_refl _)).2.2
theorem split_common (p q r : List UInt8) : (r = p ↔ r = q.take (common p q) ++ r.drop (q.take (common p q)).length ∧ r.drop (q.take (common p q)).length = p.drop (common p q)):=by
 have hcl:=common_le p q
 have ht:=take_common p q
 have hl : (q.take (common p q)).length = common p q:=by rw [List.length_take]; omega
 rw [hl,← ht]
 constructor
 ·intro e
  subst e
  exact ⟨by rw [List.take_append_drop],rfl⟩
 ·rintro ⟨e1,e2⟩
  rw [e1,e2,List.take_append_drop]
theorem put_spec (t : T) : ∀ q v,wf t → fit q = true → v ≠ [] → wf (put t q v) ∧ (∀ r,fit r = true → look (put t q v) r = if r = q then v else look t r) ∧ (isBranch t = true → isBranch (put t q v) = true):=by
 induction t with
 | nil =>
  intro q v _ hq hv
  exact ⟨⟨hq,hv⟩,fun r _=>by simp [put,look],fun h=>by simp [isBranch] at h⟩
 | leaf p w =>
  intro q v h hq hv
  simp only [put]
  have hcl:=common_le p q
  by_cases hc : common p q = p.length ∧ common p q = q.length
  ·rw [if_pos hc]
   have hpq : p = q:=by
    have:=take_common p q
    rw [List.take_of_length_le (by omega),List.take_of_length_le (by omega)] at this
    exact this
   subst hpq
   exact ⟨⟨hq,hv⟩,fun r _=>by simp only [look]; split <;> rfl,fun h=>by simp [isBranch] at h⟩
  ·rw [if_neg hc]
   have hl : (q.take (common p q)).length = common p q:=by rw [List.length_take]; omega
   obtain ⟨s1,s2,s3⟩:=partedG_spec (p.drop (common p q)) w (q.drop (common p q)) v (fun r=>.leaf r w) (fun s=>if s = p.drop (common p q) then w else [])
    (fit_drop _ h.1) (fit_drop _ hq) hv (drop_common p q)
    (by
     rintro ⟨e1,e2⟩
     have l1:=congrArg List.length e1
     have l2:=congrArg List.length e2
     simp at l1 l2
     exact hc ⟨by omega,by omega⟩)
    (by intro e; exact ⟨h.2,fun s=>by simp only [e]⟩)
    (by
     intro b r e
     refine ⟨⟨?_,h.2⟩,by simp, ?_, ?_, ?_⟩
     ·have:=fit_drop (common p q) h.1
      rw [e] at this
      exact (fit_cons'.1 this).2
     ·intro s _; simp only [look,e,List.cons.injEq,true_and]
     ·rw [e,if_neg (by simp)]
     ·intro c s hcb; rw [e,if_neg (by simp [hcb])])
   refine ⟨joined_wf (fit_take _ hq) s1 (by intro e; simp only [parted] at e; rw [e] at s3; simp [isBranch] at s3),fun r hr => ?_,fun h=>by simp [isBranch] at h⟩
   rw [joined_look _ _ (by intro e; simp only [parted] at e; rw [e] at s3; simp [isBranch] at s3)]
   simp only [parted,look]
   rw [s2 _ (fit_drop _ hr)]
   have e1:=split_common p q r
   have e2:=split_common q p r
   have hcs:=common_symm p q
   rw [hl] at e1 ⊢
   by_cases hr1 : r = q.take (common p q) ++ r.drop (common p q)
   ·rw [if_pos hr1]
    by_cases h1 : r.drop (common p q) = q.drop (common p q)
    ·have : r = q:=by rw [hr1,h1,List.take_append_drop]
     rw [if_pos h1,if_pos this]
    ·rw [if_neg h1,if_neg (show ¬ r = q from fun e=>h1 (by rw [e]))]
     by_cases h2 : r.drop (common p q) = p.drop (common p q)
     ·rw [if_pos h2,if_pos (e1.2 ⟨hr1,h2⟩)]
     ·rw [if_neg h2,if_neg (show ¬ r = p from fun e=>h2 (e1.1 e).2)]
   ·rw [if_neg hr1,if_neg (show ¬ r = q from fun e=>hr1 (by rw [e,List.take_append_drop])),if_neg (show ¬ r = p from fun e=>hr1 (e1.1 e).1)]
 | ext p t ih =>
  intro q v h hq hv
  obtain ⟨h1,h2,h3,h4⟩:=h
  simp only [put]
  have hcl:=common_le p q
  have htn : t ≠ .nil:=fun e=>by rw [e] at h3; simp [isBranch] at h3
  by_cases hc : common p q = p.length
  ·rw [if_pos hc]
   obtain ⟨s1,s2,s3⟩:=ih (q.drop (common p q)) v h4 (fit_drop _ hq) hv
   have hpq:=prefix_common.1 hc
   refine ⟨joined_wf h1 s1 (put_nn _ _ _),fun r hr => ?_,fun h=>by simp [isBranch] at h⟩
   rw [joined_look _ _ (put_nn _ _ _),hc]
   simp only [look]
   by_cases hr1 : r = p ++ r.drop p.length
   ·rw [if_pos hr1,if_pos (prefix_common.2 hr1)]
    rw [hc] at s2
    rw [s2 _ (fit_drop _ hr)]
    by_cases h5 : r.drop p.length = q.drop p.length
    ·rw [if_pos h5,if_pos (by rw [hr1,h5,← hpq])]
    ·rw [if_neg h5,if_neg (show ¬ r = q from fun e=>h5 (by rw [e]))]
   ·rw [if_neg hr1,if_neg (show ¬ r = q from fun e=>hr1 (by rw [e]; exact hpq)),if_neg (fun e=>hr1 (prefix_common.1 e))]
  ·rw [if_neg hc]
   have hl : (q.take (common p q)).length = common p q:=by rw [List.length_take]; omega
   have hop : p.drop (common p q) ≠ []:=by
    intro e; have:=congrArg List.length e; simp at this; omega
   obtain ⟨s1,s2,s3⟩:=partedG_spec (p.drop (common p q)) [] (q.drop (common p q)) v (fun r=>joined r t) (fun s=>look (.ext (p.drop (common p q)) t) s)
    (fit_drop _ h1) (fit_drop _ hq) hv (drop_common p q)
    (fun e=>hop e.1) (fun e=>absurd e hop)
    (by
     intro b r e
     have hfr : fit r = true:=by
      have:=fit_drop (common p q) h1
      rw [e] at this
      exact (fit_cons'.1 this).2
     refine ⟨joined_wf hfr h4 htn,joined_nn htn, ?_, ?_, ?_⟩
     ·intro s _
      rw [joined_look _ _ htn,e]
      simp only [look,common,if_true,List.length_cons,List.drop_succ_cons]
      by_cases h5 : s = r ++ s.drop r.length
      ·rw [if_pos h5,if_pos (by rw [prefix_common.2 h5])]
      ·rw [if_neg h5,if_neg (fun e=>h5 (prefix_common.1 (by omega)))]
     ·rw [e]; simp [look,common]
     ·intro c s hcb
      rw [e]
      simp [look,common,Ne.symm hcb])
   have hne : partedG (p.drop (common p q)) (fun r=>joined r t) [] (q.drop (common p q)) v ≠ .nil:=by intro e; rw [e] at s3; simp [isBranch] at s3
   refine ⟨joined_wf (fit_take _ hq) s1 hne,fun r hr => ?_,fun h=>by simp [isBranch] at h⟩
   simp only [parted]
   rw [joined_look _ _ hne]
   rw [s2 _ (fit_drop _ hr),hl]
   by_cases hr1 : r = q.take (common p q) ++ r.drop (common p q)
   ·rw [if_pos hr1]
    by_cases h5 : r.drop (common p q) = q.drop (common p q)
    ·rw [if_pos h5,if_pos (by rw [hr1,h5,List.take_append_drop])]
    ·rw [if_neg h5,if_neg (show ¬ r = q from fun e=>h5 (by rw [e]))]
     simp only [look,List.length_drop]
     have ht:=take_common p q
     by_cases h6 : common p r = p.length
     ·have h7:=prefix_common.1 h6
      have h8 : common (p.drop (common p q)) (r.drop (common p q)) = p.length - common p q:=by
       have:=prefix_common (p:=p.drop (common p q)) (q:=r.drop (common p q))
       rw [List.length_drop] at this
       refine this.2 ?_
       conv=>lhs; rw [h7]
       rw [List.drop_append_of_le_length hcl.1,List.drop_drop]
       congr 2
       omega
      rw [if_pos h8,if_pos h6,List.drop_drop]
      congr 2
      omega
     ·rw [if_neg h6,if_neg]
      intro h8
      have:=prefix_common (p:=p.drop (common p q)) (q:=r.drop (common p q))
      rw [List.length_drop] at this
      have h9:=this.1 h8
      refine h6 (prefix_common.2 ?_)
      conv=>lhs; rw [hr1,← ht,h9]
      rw [← List.append_assoc,List.take_append_drop,List.drop_drop]
      congr 2
      omega
   ·rw [if_neg hr1,if_neg (show ¬ r = q from fun e=>hr1 (by rw [e,List.take_append_drop]))]
    simp only [look]
    rw [if_neg]
    intro h6
    have h7:=prefix_common.1 h6
    refine hr1 ?_
    have ht:=take_common p q
    have : r.take (common p q) = q.take (common p q):=by
     rw [h7,List.take_append_of_le_length hcl.1,ht]
    rw [← this,List.take_append_drop]
 | branch w kids ih =>
  intro q v h hq hv
  cases q with
  | nil =>
   simp only [put]
   refine ⟨⟨h.1, ?_⟩,fun r _ => ?_,fun _=>rfl⟩
   ·have:=h.2
    rw [if_neg hv]
    split at this <;> omega
   ·cases r <;> simp [look]
  | cons b q =>
   have hb:=fit_cons'.1 hq
   obtain ⟨s1,s2,_⟩:=ih (ix b) q v (h.1 _) hb.2 hv
   have isn : isNil (put (kids (ix b)) q v) = false:=by
    have:=put_nn (kids (ix b)) q v
    generalize put (kids (ix b)) q v = t at *
    cases t <;> simp_all [isNil]
   simp only [put]
   refine ⟨⟨fun i => ?_, ?_⟩,fun r hr => ?_,fun _=>rfl⟩
   ·simp only [setKid]; split
    ·exact s1
    ·exact h.1 i
   ·have h2:=h.2
    have hm : many kids ≤ many (setKid kids b (put (kids (ix b)) q v)):=many_mono (fun i hi=>by
     by_cases e : i = ix b
     ·subst e; rw [setKid_same]; exact isn
     ·rw [setKid_other e]; exact hi)
    omega
   ·cases r with
    | nil=>simp [look]
    | cons x r =>
     have hx:=fit_cons'.1 hr
     simp only [look]
     by_cases hxb : x = b
     ·subst hxb
      rw [setKid_same,s2 r hx.2]
      simp only [List.cons.injEq,true_and]
     ·rw [setKid_other (fun e=>hxb (ix_inj hx.1 hb.1 e)),if_neg (by simp [hxb])]
theorem isNil_iff {t : T} : isNil t = true ↔ t = .nil:=by cases t <;> simp [isNil]
theorem many_zero {kids : Fin 16 → T} (h : many kids = 0) (i : Fin 16) : kids i = .nil:=by
 cases hi : isNil (kids i) with
 | true=>exact isNil_iff.1 hi
 | false=>have:=many_pos hi; omega
theorem lastKid_one {kids : Fin 16 → T} (h : many kids = 1) : isNil (kids (lastKid kids)) = false ∧ ∀ i,i ≠ lastKid kids → kids i = .nil:=by
 unfold many at h
 unfold lastKid
 have hm : ∀ i,i ∈ ((List.finRange 16).filter fun i => !isNil (kids i)) ↔ isNil (kids i) = false:=by
  intro i; rw [List.mem_filter]; simp [List.mem_finRange]
 generalize ((List.finRange 16).filter fun i => !isNil (kids i)) = l at *
 match l,h with
 | [x],_ =>
  refine ⟨by simpa using (hm x).1 (by simp),fun i hi => ?_⟩
  cases hn : isNil (kids i) with
  | true=>exact isNil_iff.1 hn
  | false =>
   have:=(hm i).2 hn
   simp at this
   exact absurd this (by simpa using hi)
theorem shrunk_spec (v : List UInt8) (kids : Fin 16 → T) (h : ∀ i,wf (kids i)) (h1 : 1 ≤ many kids + (if v = [] then 0 else 1)) :
  wf (shrunk v kids) ∧ (∀ r,fit r = true → look (shrunk v kids) r = look (.branch v kids) r) ∧ shrunk v kids ≠ .nil:=by
 unfold shrunk
 by_cases m0 : many kids = 0
 ·rw [if_pos m0]
  have hv : v ≠ []:=by intro e; rw [m0,if_pos e] at h1; omega
  refine ⟨⟨rfl,hv⟩,fun r _ => ?_,by simp⟩
  cases r with
  | nil=>simp [look]
  | cons b r=>simp [look,many_zero m0]
 ·rw [if_neg m0]
  by_cases m1 : many kids = 1 ∧ v = []
  ·rw [if_pos m1]
   obtain ⟨g1,g2⟩:=lastKid_one m1.1
   have hn : kids (lastKid kids) ≠ .nil:=fun e=>by rw [e] at g1; simp [isNil] at g1
   obtain ⟨e1,e2⟩:=ix_of (lastKid kids)
   generalize lastKid kids = l at *
   refine ⟨joined_wf (fit_cons'.2 ⟨e2,rfl⟩) (h _) hn,fun r hr => ?_,joined_nn hn⟩
   rw [joined_look _ _ hn]
   cases r with
   | nil=>rw [if_neg (by simp)]; simp [look,m1.2]
   | cons b r =>
    have hb:=fit_cons'.1 hr
    simp only [look,List.length_singleton,List.drop_succ_cons,List.drop_zero,List.singleton_append,List.cons.injEq,and_true]
    by_cases hbl : b = UInt8.ofNat l.val
    ·rw [if_pos hbl,hbl,e1]
    ·rw [if_neg hbl,g2 (ix b) (fun e=>hbl (ix_inj hb.1 e2 (by rw [e,e1])))]; rfl
  ·rw [if_neg m1]
   refine ⟨⟨h, ?_⟩,fun r _=>rfl,by simp⟩
   by_cases hv : v = []
   ·rw [if_pos hv]
    have : many kids ≠ 1:=fun e=>m1 ⟨e,hv⟩
    omega
   ·rw [if_neg hv]; omega
theorem del_spec (t : T) : ∀ q,wf t → fit q = true → look t q ≠ [] → wf (del t q) ∧ (∀ r,fit r = true → look (del t q) r = if r = q then [] else look t r) ∧ (isBranch t = true → del t q ≠ .nil):=by
 induction t with
 | nil=>intro q _ _ h; exact absurd rfl h
 | leaf p w =>
  intro q _ _ h
  refine ⟨trivial,fun r _ => ?_,fun h=>by simp [isBranch] at h⟩
  simp only [look] at h ⊢
  simp only [del,look]
  by_cases hq : q = p
  ·subst hq; split <;> rfl
  ·rw [if_neg hq] at h; exact absurd rfl h
 | ext p t ih =>
  intro q hw hq h
  obtain ⟨h1,h2,h3,h4⟩:=hw
  obtain ⟨e1,e2⟩:=look_ext_some h
  obtain ⟨s1,s2,s3⟩:=ih (q.drop p.length) h4 (fit_drop _ hq) e2
  have hn:=s3 h3
  refine ⟨joined_wf h1 s1 hn,fun r hr => ?_,fun h=>by simp [isBranch] at h⟩
  simp only [del]
  rw [joined_look _ _ hn]
  simp only [look]
  by_cases hr1 : r = p ++ r.drop p.length
  ·rw [if_pos hr1,if_pos (prefix_common.2 hr1),s2 _ (fit_drop _ hr)]
   by_cases h5 : r.drop p.length = q.drop p.length
   ·rw [if_pos h5,if_pos (by rw [hr1,h5,← e1])]
   ·rw [if_neg h5,if_neg (show ¬ r = q from fun e=>h5 (by rw [e]))]
  ·rw [if_neg hr1,if_neg (show ¬ common p r = p.length from fun e=>hr1 (prefix_common.1 e))]
   split <;> rfl
 | branch v kids ih =>
  intro q hw hq h
  cases q with
  | nil =>
   simp only [del]
   have hm : 1 ≤ many kids + (if ([] : List UInt8) = [] then 0 else 1):=by
    have:=hw.2
    rw [if_pos rfl]
    split at this <;> omega
   obtain ⟨s1,s2,s3⟩:=shrunk_spec [] kids hw.1 hm
   refine ⟨s1,fun r hr => ?_,fun _=>s3⟩
   rw [s2 r hr]
   cases r <;> simp [look]
  | cons b q =>
   have hb:=fit_cons'.1 hq
   simp only [look] at h
   obtain ⟨i1,i2,_⟩:=ih (ix b) q (hw.1 _) hb.2 h
   simp only [del]
   have hk : ∀ i,wf (setKid kids b (del (kids (ix b)) q) i):=by
    intro i; simp only [setKid]; split
    ·exact i1
    ·exact hw.1 i
   have hm : 1 ≤ many (setKid kids b (del (kids (ix b)) q)) + (if v = [] then 0 else 1):=by
    rcases many_two hw.2 b with hv | ⟨i,hne,hi⟩
    ·rw [if_neg hv]; omega
    ·have:=many_pos (kids:=setKid kids b (del (kids (ix b)) q)) (i:=i) (by rw [setKid_other hne]; exact hi)
     omega
   obtain ⟨s1,s2,s3⟩:=shrunk_spec v _ hk hm
   refine ⟨s1,fun r hr => ?_,fun _=>s3⟩
   rw [s2 r hr]
   cases r with
   | nil=>simp [look]
   | cons x r =>
    have hx:=fit_cons'.1 hr
    simp only [look]
    by_cases hxb : x = b
    ·subst hxb
     rw [setKid_same,i2 r hx.2]
     simp only [List.cons.injEq,true_and]
    ·rw [setKid_other (fun e=>hxb (ix_inj hx.1 hb.1 e)),if_neg (by simp [hxb])]
end Trie
namespace Trie
open Nib
def hb (i : Fin 16) : UInt8:=UInt8.ofNat i.val
def items : T → List UInt8 → List (List UInt8 × List UInt8)
 | .nil,_ => []
 | .leaf p v,pl => [(pl ++ p,v)]
 | .ext p t,pl=>items t (pl ++ p)
 | .branch v kids,pl=>(if v = [] then [] else [(pl,v)]) ++ (List.finRange 16).flatMap fun i=>items (kids i) (pl ++ [hb i])
def count : T → Nat
 | .nil=>0
 | .leaf _ _=>1
 | .ext _ t=>count t
 | .branch v kids=>(if v = [] then 0 else 1) + ((List.finRange 16).map fun i=>count (kids i)).sum
theorem length_items (t : T) : ∀ pl,(items t pl).length = count t:=by
 induction t with
 | nil=>intro pl; rfl
 | leaf p v=>intro pl; rfl
 | ext p t ih=>intro pl; exact ih _
 | branch v kids ih =>
  intro pl
  have h1 : (if v = [] then ([] : List (List UInt8 × List UInt8)) else [(pl,v)]).length = if v = [] then 0 else 1:=by split <;> rfl
  have h2 : ((List.finRange 16).map fun i=>(items (kids i) (pl ++ [hb i])).length) = (List.finRange 16).map fun i=>count (kids i):=List.map_congr_left fun i _=>ih i _
  simp only [items,count,List.length_append,List.length_flatMap]
  rw [h1,h2]
theorem mem_items (t : T) : ∀ pl x,wf t → (x ∈ items t pl ↔ ∃ q,fit q = true ∧ x = (pl ++ q,look t q) ∧ look t q ≠ []):=by
 induction t with
 | nil=>intro pl x _; simp [items,look]
 | leaf p v =>
  intro pl x h
  simp only [items,List.mem_singleton,look]
  constructor
  ·intro e; exact ⟨p,h.1,by rw [if_pos rfl]; exact e,by rw [if_pos rfl]; exact h.2⟩
  ·rintro ⟨q,_,e,g⟩
   by_cases hq : q = p
   ·subst hq; rwa [if_pos rfl] at e
   ·rw [if_neg hq] at g; exact absurd rfl g
 | ext p t ih =>
  intro pl x h
  simp only [items]
  rw [ih _ _ h.2.2.2]
  constructor
  ·rintro ⟨q,f,e,g⟩
   exact ⟨p ++ q,fit_append.2 ⟨h.1,f⟩,by rw [look_ext,← List.append_assoc]; exact e,by rw [look_ext]; exact g⟩
  ·rintro ⟨q,f,e,g⟩
   obtain ⟨e1,e2⟩:=look_ext_some g
   refine ⟨q.drop p.length,fit_drop _ f, ?_,e2⟩
   rw [e]
   have : look (.ext p t) q = look t (q.drop p.length):=by
    conv=>lhs; rw [e1]
    rw [look_ext]
   rw [this,List.append_assoc,← e1]
 | branch v kids ih =>
  intro pl x h
  simp only [items,List.mem_append,List.mem_flatMap]
  constructor
  ·rintro (hx | ⟨i,_,hx⟩)
   ·split at hx
    ·simp at hx
    ·rename_i hv
     simp at hx
     exact ⟨[],rfl,by simpa [look] using hx,hv⟩
   ·obtain ⟨q,f,e,g⟩:=(ih i _ _ (h.1 i)).1 hx
    obtain ⟨e1,e2⟩:=ix_of i
    refine ⟨hb i :: q,fit_cons'.2 ⟨e2,f⟩, ?_, ?_⟩
    ·simp only [look,hb,e1]; rw [e]; simp [hb]
    ·simp only [look,hb,e1]; exact g
  ·rintro ⟨q,f,e,g⟩
   cases q with
   | nil =>
    left
    simp only [look] at g e
    rw [if_neg g,e]; simp
   | cons b q =>
    right
    have hbb:=fit_cons'.1 f
    simp only [look] at g e
    refine ⟨ix b,List.mem_finRange _,(ih _ _ _ (h.1 _)).2 ⟨q,hbb.2, ?_,g⟩⟩
    have : hb (ix b) = b:=by
     obtain ⟨e1,e2⟩:=ix_of (ix b)
     exact ix_inj e2 hbb.1 e1
    rw [e,this]; simp
theorem blt_prefix (pl x y : List UInt8) : Op.bytesLess (pl ++ x) (pl ++ y) = Op.bytesLess x y:=by
 induction pl with
 | nil=>rfl
 | cons a pl ih=>simp [Op.bytesLess,UInt8.lt_irrefl,ih]
theorem hb_lt {i j : Fin 16} (h : i.val < j.val) : hb i < hb j:=by
 have:=i.isLt
 have:=j.isLt
 rw [UInt8.lt_iff_toNat_lt]
 simp [hb]; omega
theorem sorted_items (t : T) : ∀ pl,wf t → (items t pl).Pairwise fun x y=>Op.bytesLess x.1 y.1 = true:=by
 induction t with
 | nil=>intro pl _; exact List.Pairwise.nil
 | leaf p v=>intro pl _; exact List.pairwise_singleton _ _
 | ext p t ih=>intro pl h; exact ih _ h.2.2.2
 | branch v kids ih =>
  intro pl h
  simp only [items]
  rw [List.pairwise_append]
  refine ⟨?_, ?_, ?_⟩
  ·split
   ·exact List.Pairwise.nil
   ·exact List.pairwise_singleton _ _
  ·rw [List.pairwise_flatMap]
   refine ⟨fun i _=>ih i _ (h.1 i), ?_⟩
   have hp : (List.finRange 16).Pairwise (fun i j : Fin 16=>i.val < j.val):=by decide
   refine hp.imp ?_
   intro i j hij x hx y hy
   obtain ⟨q,_,e,_⟩:=(mem_items _ _ _ (h.1 i)).1 hx
   obtain ⟨r,_,e2,_⟩:=(mem_items _ _ _ (h.1 j)).1 hy
   rw [e,e2]
   simp only [List.append_assoc,List.singleton_append]
   rw [blt_prefix]
   simp [Op.bytesLess,hb_lt hij]
  ·intro x hx y hy
   obtain ⟨i,_,hy⟩:=List.mem_flatMap.1 hy
   obtain ⟨r,_,e2,_⟩:=(mem_items _ _ _ (h.1 i)).1 hy
   split at hx
   ·simp at hx
   ·simp at hx
    rw [hx,e2]
    simp only [List.append_assoc,List.singleton_append]
    have:=blt_prefix pl [] (hb i :: r)
    rw [List.append_nil] at this
    rw [this]; rfl
end Trie
end Go.Proofs.YtnelhjfjkkdoaaaGreatDoor
namespace Go.Proofs.YtnelhjfjkkdoaaaGreatDoor
open Go.RowKit Go.Instr
namespace Trie
open Nib
def kidsT : T → Fin 16 → T
 | .branch _ kids=>kids
 | .ext _ t=>fun i=>if i = 0 then t else .nil
 | _=>noKids
def kindT : T → Nat
 | .nil=>0
 | .leaf _ _=>1
 | .ext _ _=>2
 | .branch _ _=>3
def pathT : T → List UInt8
 | .leaf p _=>p
 | .ext p _=>p
 | _ => []
def valT : T → List UInt8
 | .leaf _ v=>v
 | .branch v _=>v
 | _ => []
def sumT : T → List UInt8
 | .nil => []
 | .leaf p v=>nodeSum 1 p v (List.replicate 16 [])
 | .ext p t=>nodeSum 2 p [] (sumT t :: List.replicate 15 [])
 | .branch v kids=>nodeSum 3 [] v (List.ofFn fun i=>sumT (kids i))
def sumsT (t : T) : List (List UInt8):=List.ofFn fun i=>sumT (kidsT t i)
def textT (t : T) : List UInt8:=nodeText (kindT t) (pathT t) (valT t) (sumsT t)
theorem sumsT_length (t : T) : (sumsT t).length = 16:=by simp [sumsT]
theorem sumsT_leaf (p v : List UInt8) : sumsT (.leaf p v) = List.replicate 16 []:=rfl
theorem sumsT_ext (p : List UInt8) (t : T) : sumsT (.ext p t) = sumT t :: List.replicate 15 []:=rfl
theorem sumT_eq {t : T} (h : t ≠ .nil) : sumT t = nodeSum (kindT t) (pathT t) (valT t) (sumsT t):=by
 cases t with
 | nil=>exact absurd rfl h
 | leaf p v=>rfl
 | ext p t=>rfl
 | branch v kids=>rfl
theorem sumT_len {t : T} (h : t ≠ .nil) : (sumT t).length = 32:=by
 rw [sumT_eq h]; exact shaW_length _
theorem sumT_short (t : T) : (sumT t).length ≤ 32:=by
 by_cases h : t = .nil
 ·subst h; simp [sumT]
 ·rw [sumT_len h]; exact Nat.le_refl _
theorem sumT_nil_iff {t : T} : (sumT t).isEmpty = isNil t:=by
 by_cases h : t = .nil
 ·subst h; rfl
 ·have:=sumT_len h
  cases hs : sumT t with
  | nil=>rw [hs] at this; simp at this
  | cons a l=>cases t <;> simp_all [isNil]
theorem sumsT_at (t : T) (i : Fin 16) : (sumsT t).getD i.val [] = sumT (kidsT t i):=by
 rw [List.getD_eq_getElem?_getD,List.getElem?_eq_getElem (by rw [sumsT_length]; exact i.isLt)]
 simp only [sumsT,List.getElem_ofFn]
 rfl
theorem sumsT_short (t : T) : ∀ s ∈ sumsT t,s.length ≤ 32:=by
 intro s hs
 simp only [sumsT,List.mem_ofFn] at hs
 obtain ⟨i,rfl⟩:=hs
 exact sumT_short _
theorem ofFn_map {α : Type} (f : Fin 16 → α) : List.ofFn f = (List.finRange 16).map f:=by
 apply List.ext_getElem
 ·simp
 ·intro i h1 h2
  simp only [List.getElem_ofFn,List.getElem_map,List.getElem_finRange]
  rfl
theorem ofFn_filter_map {f : Fin 16 → List UInt8} : ((List.ofFn f).filter fun s => !s.isEmpty) = ((List.finRange 16).filter fun i => !(f i).isEmpty).map f:=by
 rw [ofFn_map,List.filter_map]; rfl
theorem kidsW_length (t : T) : (kidsW (sumsT t)).length = many (kidsT t):=by
 unfold kidsW sumsT many
 rw [ofFn_filter_map,List.length_map]
 congr 2
 funext i
 rw [sumT_nil_iff]
theorem kidsW_sums (t : T) : sumsOk (kidsW (sumsT t)) = true:=by
 unfold sumsOk kidsW sumsT
 rw [ofFn_filter_map,List.all_eq_true]
 intro s hs
 rw [List.mem_map] at hs
 obtain ⟨i,hi,rfl⟩:=hs
 rw [List.mem_filter,sumT_nil_iff] at hi
 rw [sumT_len (fun e=>by rw [e] at hi; simp [isNil] at hi)]
 simp
def small (t : T) : Prop := ∀ q,fit q = true → look t q ≠ [] → q.length ≤ 16 ∧ (look t q).length ≤ 32
theorem small_nil : small .nil:=fun q _ h=>absurd rfl h
theorem small_leaf {p v : List UInt8} (hp : p.length ≤ 16) (hv : v.length ≤ 32) : small (.leaf p v):=by
 intro q _ h
 simp only [look] at h ⊢
 split at h
 ·rename_i e; subst e; rw [if_pos rfl]; exact ⟨hp,hv⟩
 ·exact absurd rfl h
theorem small_kid {v : List UInt8} {kids : Fin 16 → T} (h : small (.branch v kids)) (i : Fin 16) : small (kids i):=by
 intro q hq hl
 obtain ⟨e1,e2⟩:=ix_of i
 have:=h (UInt8.ofNat i.val :: q) (fit_cons'.2 ⟨e2,hq⟩) (by simp only [look,e1]; exact hl)
 simp only [look,e1,List.length_cons] at this
 exact ⟨by omega,this.2⟩
theorem small_ext {p : List UInt8} {t : T} (hp : fit p = true) (h : small (.ext p t)) : small t:=by
 intro q hq hl
 have:=h (p ++ q) (fit_append.2 ⟨hp,hq⟩) (by rw [look_ext]; exact hl)
 rw [look_ext,List.length_append] at this
 exact ⟨by omega,this.2⟩
theorem small_ext_path {p : List UInt8} {t : T} (hw : wf (.ext p t)) (h : small (.ext p t)) : p.length ≤ 16:=by
 obtain ⟨h1,h2,h3,h4⟩:=hw
 obtain ⟨q,g1,g2⟩:=look_some t h4 (by obtain ⟨v,kids,rfl⟩:=branch_of h3; rfl)
 have:=(h (p ++ q) (fit_append.2 ⟨h1,g1⟩) (by rw [look_ext]; exact g2)).1
 rw [List.length_append] at this; omega
theorem fineT {t : T} (hn : t ≠ .nil) (hw : wf t) (hs : small t) : fineN (kindT t) (pathT t) (valT t) (sumsT t) = true:=by
 have hk:=kidsW_sums t
 have hl:=kidsW_length t
 cases t with
 | nil=>exact absurd rfl hn
 | leaf p v =>
  have h1:=hs p hw.1 (by simp [look]; exact hw.2)
  simp only [look,if_true] at h1
  have h2 : v.isEmpty = false:=by
   cases v with
   | nil=>exact absurd rfl hw.2
   | cons a l=>rfl
  simp [fineN,kindT,pathT,valT,sumsT_leaf,pathOk,hw.1,h1.1,h1.2,h2]
 | ext p t =>
  have h1:=small_ext_path hw hs
  obtain ⟨g1,g2,g3,g4⟩:=hw
  have h2:=sumT_len (t:=t) (fun e=>by rw [e] at g3; simp [isBranch] at g3)
  have h3 : 1 ≤ p.length:=by
   cases p with
   | nil=>exact absurd rfl g2
   | cons a l=>simp
  simp only [fineN,kindT,pathT,valT,sumsT_ext,List.getD_cons_zero]
  simp [sumsOk,h2,pathOk,g1,h1,h3]
 | branch v kids =>
  replace hl : (kidsW (sumsT (.branch v kids))).length = many kids:=hl
  have hv : v.length ≤ 32:=by
   by_cases h0 : v = []
   ·subst h0; simp
   ·exact (hs [] rfl (by simpa [look] using h0)).2
  have h2:=hw.2
  simp only [fineN,kindT,pathT,valT,hk,hl]
  by_cases h0 : v = []
  ·subst h0; simp at h2 ⊢; omega
  ·have h0' : v.isEmpty = false:=by
    cases v with
    | nil=>exact absurd rfl h0
    | cons a l=>rfl
   rw [if_neg h0] at h2
   simp [h0',hv]
   omega
def belowT (t : T) (n : Nat) : Nat:=(((List.finRange 16).take n).map fun i=>count (kidsT t i)).sum
theorem take_finRange (i : Fin 16) : (List.finRange 16).take (i.val + 1) = (List.finRange 16).take i.val ++ [i]:=by
 rw [List.take_succ_eq_append_getElem (by simp)]; simp
theorem belowT_succ (t : T) (i : Fin 16) : belowT t (i.val + 1) = belowT t i.val + count (kidsT t i):=by
 unfold belowT
 rw [take_finRange]; simp
theorem belowT_le (t : T) (n : Nat) : belowT t n ≤ belowT t 16:=by
 unfold belowT
 conv=>rhs; rw [List.take_of_length_le (by simp)]
 rw [← List.take_append_drop n (List.finRange 16),List.map_append,List.sum_append,List.take_append_drop]
 omega
theorem sum_zero {α : Type} (l : List α) : (l.map fun _=>0).sum = 0:=by
 induction l with
 | nil=>rfl
 | cons a l ih=>simpa using ih
theorem count_eq {t : T} (hn : t ≠ .nil) (hw : wf t) : count t = belowT t 16 + if (valT t).isEmpty then 0 else 1:=by
 have h0 : belowT t 16 = ((List.finRange 16).map fun i=>count (kidsT t i)).sum:=by
  unfold belowT; rw [List.take_of_length_le (by simp)]
 rw [h0]
 cases t with
 | nil=>exact absurd rfl hn
 | leaf p v =>
  have h2 : v.isEmpty = false:=by
   cases v with
   | nil=>exact absurd rfl hw.2
   | cons a l=>rfl
  simp only [count,valT,h2]
  have e : (fun i=>count (kidsT (.leaf p v) i)) = fun _=>0:=by funext i; rfl
  rw [e,sum_zero]; simp
 | ext p t =>
  simp only [count,valT]
  have e : ((List.finRange 16).map fun i=>count (kidsT (.ext p t) i)).sum = count t:=by
   rw [List.finRange_succ,List.map_cons,List.sum_cons,List.map_map]
   have : ((fun i=>count (kidsT (.ext p t) i)) ∘ Fin.succ : Fin 15 → Nat) = fun _=>0:=by
    funext i; simp [kidsT,Fin.succ_ne_zero,count]
   rw [this,sum_zero]
   simp [kidsT]
  rw [e]; simp
 | branch v kids =>
  simp only [count,valT,kidsT]
  by_cases h0 : v = []
  ·subst h0; simp
  ·have h0' : v.isEmpty = false:=by
    cases v with
    | nil=>exact absurd rfl h0
    | cons a l=>rfl
   simp [h0,h0']; omega
end Trie
def knotL (k : Nat) (p v : List UInt8) (K : List (List UInt8)) (ps : List Value) (text sum : List UInt8) (m : Nat) : List Value :=
 nodeV k p v K ++ (ps ++ [.string ⟨text.toArray⟩,.string ⟨sum.toArray⟩,.int .i64 (m : Int)])
def knotC (t : Trie.T) (ps : List Value) : List Value:=knotL (Trie.kindT t) (Trie.pathT t) (Trie.valT t) (Trie.sumsT t) ps (Trie.textT t) (Trie.sumT t) (Trie.count t)
inductive KnotP (w : World) : Trie.T → Value → Prop
 | nil : KnotP w .nil (.pointer none)
 | knot (t : Trie.T) (b : Nat) (ps : List Value) : t ≠ .nil → ps.length = 16 → Blk w b 136 (knotC t ps).toArray → (∀ i : Fin 16,KnotP w (Trie.kidsT t i) (ps.getD i.val undef)) → KnotP w t (.pointer (some ⟨b,0,none⟩))
theorem KnotP.keep {w w1 : World} {B : Nat} {t : Trie.T} {x : Value} (h : KnotP w t x) (hb : Below B w w1) (hB : w.heap.size ≤ B) : KnotP w1 t x:=by
 induction h with
 | nil=>exact .nil
 | knot t b ps h1 h2 h3 _ ih=>exact .knot t b ps h1 h2 (h3.below hb (by have:=h3.lt; omega)) ih
theorem KnotP.next {w w1 : World} {t : Trie.T} {x : Value} (h : KnotP w t x) (hb : Below w.heap.size w w1) : KnotP w1 t x:=h.keep hb (Nat.le_refl _)
theorem KnotP.form {w : World} {t : Trie.T} {x : Value} (h : KnotP w t x) : (t = .nil ∧ x = .pointer none) ∨ ∃ b ps,t ≠ .nil ∧ x = .pointer (some ⟨b,0,none⟩) ∧ ps.length = 16 ∧ Blk w b 136 (knotC t ps).toArray ∧ ∀ i : Fin 16,KnotP w (Trie.kidsT t i) (ps.getD i.val undef):=by
 cases h with
 | nil=>exact .inl ⟨rfl,rfl⟩
 | knot t b ps h1 h2 h3 h4=>exact .inr ⟨b,ps,h1,rfl,h2,h3,h4⟩
theorem KnotP.one {w : World} {t : Trie.T} {x : Value} (h : KnotP w t x) : x.oneCell' = true:=by
 rcases h.form with ⟨_,rfl⟩ | ⟨b,ps,_,rfl,_⟩ <;> rfl
theorem KnotP.nil_iff {w : World} {t : Trie.T} {x : Value} (h : KnotP w t x) : t = .nil ↔ x = .pointer none:=by
 rcases h.form with ⟨rfl,rfl⟩ | ⟨b,ps,h1,rfl,_⟩
 ·simp
 ·simp [h1]
def KnotEnd (w : World) (t : Trie.T) (e : Ending) (w' : World) : Prop := ∃ x,e = .returned x ∧ KnotP w' t x ∧ Below w.heap.size w w'
end Go.Proofs.YtnelhjfjkkdoaaaGreatDoor
