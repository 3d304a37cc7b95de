import Derived.Test.YtomnlhbioijfhaaDoorK19
import Derived.Test.YtomnlhbioijfhaaDoorK18
import Derived.Test.YtomnlhbioijfhaaDoorK11
import Derived.Test.YtomnlhbioijfhaaDoorK05
import Derived.Test.YtomnlhbioijfhaaDoorK06
import Derived.Test.YtomnlhbioijfhaaDoorK14
set_option linter.unusedSimpArgs false
set_option linter.unusedVariables false
namespace Go.Proofs.YtomnlhbioijfhaaDoor
namespace Trie
abbrev KV:=List UInt8 × List UInt8
end Trie
namespace Ex
open Pw Trie
structure Tx where
 kind : Int
 frm : List UInt8
 seq : Int
 dst : List UInt8
 amt : Int
 key : List UInt8
 val : List UInt8
 mem : List Mem
def nameW (s : List UInt8) : Bool:=decide (1 ≤ s.length) && decide (s.length ≤ 6)
abbrev maxA : Nat:=1099511627776
def bareX (x : Tx) : Bool :=
 if x.kind = 1 then x.key.isEmpty && x.val.isEmpty && x.mem.isEmpty
 else if x.kind = 2 then x.dst.isEmpty && decide (x.amt = 0) && x.mem.isEmpty
 else if x.kind = 3 then x.dst.isEmpty && decide (x.amt = 0) && x.mem.isEmpty && x.val.isEmpty
 else if x.kind = 4 then x.dst.isEmpty && decide (x.amt = 0) && (x.key.isEmpty && x.val.isEmpty)
 else false
def ownX (x : Tx) : Bool :=
 if x.kind = 1 then nameW x.dst && decide (1 ≤ x.amt) && decide (x.amt ≤ 1099511627776)
 else if x.kind = 2 then decide (1 ≤ x.val.length) && decide (x.val.length ≤ 32) && (decide (1 ≤ x.key.length) && decide (x.key.length ≤ 6))
 else if x.kind = 3 then decide (1 ≤ x.key.length) && decide (x.key.length ≤ 6)
 else okM x.mem
def headX (x : Tx) : Bool:=nameW x.frm && decide (0 ≤ x.seq) && decide (x.seq ≤ 1099511627776)
def fineX (x : Tx) : Bool:=bareX x && headX x && ownX x
def aKey (n : List UInt8) : List UInt8:=97 :: 58 :: n
def dKey (k : List UInt8) : List UInt8:=100 :: 58 :: k
def sKey : List UInt8 := [115]
def rootB : List UInt8 := [114,111,111,116]
def writA (p : Nat × Nat) : List UInt8:=numW p.1 ++ numW p.2
def parseA (v : List UInt8) : Option (Nat × Nat) :=
 if endS (numS (numS (v,0)).2).2 = 0 ∧ (numS (v,0)).1 ≤ maxA ∧ (numS (numS (v,0)).2).1 ≤ maxA then some ((numS (v,0)).1,(numS (numS (v,0)).2).1) else none
theorem parseA_writA {a b : Nat} (ha : a ≤ maxA) (hb : b ≤ maxA) : parseA (writA (a,b)) = some (a,b):=by
 have h1:=numT_of a (by unfold maxA at ha; omega) (numW b)
 have h2:=numT_of b (by unfold maxA at hb; omega) []
 rw [List.append_nil] at h2
 have e1 : numS (writA (a,b),0) = (a,(numW b,0)):=by
  unfold numS writA
  rw [if_neg (by simp),h1,if_pos rfl]
 have e2 : numS (numW b,0) = (b,([],0)):=by
  unfold numS
  rw [if_neg (by simp),h2,if_pos rfl]
 unfold parseA
 rw [e1]
 simp only
 rw [e2]
 simp only
 rw [if_pos ⟨rfl,ha,hb⟩]
theorem parseA_le {v : List UInt8} {p : Nat × Nat} (h : parseA v = some p) : p.1 ≤ maxA ∧ p.2 ≤ maxA:=by
 unfold parseA at h
 split at h
 ·rename_i hc
  injection h with h
  subst h
  exact ⟨hc.2.1,hc.2.2⟩
 ·cases h
def acc (t : T) (n : List UInt8) : Option (Nat × Nat):=if (getW t (aKey n)).2 = 0 then parseA (getW t (aKey n)).1 else some (0,0)
theorem acc_le {t : T} {n : List UInt8} {p : Nat × Nat} (h : acc t n = some p) : p.1 ≤ maxA ∧ p.2 ≤ maxA:=by
 unfold acc at h
 split at h
 ·exact parseA_le h
 ·injection h with h; subst h; exact ⟨by simp,by simp⟩
def kindW (t : T) (x : Tx) (f tt : Nat × Nat) : T × Nat × Nat :=
 if x.kind = 1 then
  if (f.1 : Int) < x.amt then (t,161,0)
  else if x.dst = x.frm then (t,0,f.1)
  else if (1099511627776 : Int) - x.amt < tt.1 then (t,1,0)
  else (put t (Nib.of (aKey x.dst)) (writA (tt.1 + x.amt.toNat,tt.2)),0,f.1 - x.amt.toNat)
 else if x.kind = 2 then (put t (Nib.of (dKey x.key)) x.val,0,f.1)
 else if x.kind = 3 then (if (getW t (dKey x.key)).2 = 0 then (del t (Nib.of (dKey x.key)),0,f.1) else (t,(getW t (dKey x.key)).2,0))
 else if x.frm = rootB then (put t (Nib.of sKey) (digM x.mem),0,f.1) else (t,162,0)
theorem kindW_1 {t : T} {x : Tx} {f tt : Nat × Nat} (k : x.kind = 1) : kindW t x f tt = if (f.1 : Int) < x.amt then (t,161,0)
  else if x.dst = x.frm then (t,0,f.1)
  else if (1099511627776 : Int) - x.amt < tt.1 then (t,1,0)
  else (put t (Nib.of (aKey x.dst)) (writA (tt.1 + x.amt.toNat,tt.2)),0,f.1 - x.amt.toNat):=by unfold kindW; rw [if_pos k]
theorem kindW_2 {t : T} {x : Tx} {f tt : Nat × Nat} (k : x.kind = 2) : kindW t x f tt = (put t (Nib.of (dKey x.key)) x.val,0,f.1):=by unfold kindW; rw [if_neg (by omega),if_pos k]
theorem kindW_3 {t : T} {x : Tx} {f tt : Nat × Nat} (k : x.kind = 3) : kindW t x f tt = if (getW t (dKey x.key)).2 = 0 then (del t (Nib.of (dKey x.key)),0,f.1) else (t,(getW t (dKey x.key)).2,0):=by unfold kindW; rw [if_neg (show ¬ x.kind = 1 by omega),if_neg (show ¬ x.kind = 2 by omega),if_pos k]
theorem kindW_4 {t : T} {x : Tx} {f tt : Nat × Nat} (k : x.kind = 4) : kindW t x f tt = if x.frm = rootB then (put t (Nib.of sKey) (digM x.mem),0,f.1) else (t,162,0):=by unfold kindW; rw [if_neg (show ¬ x.kind = 1 by omega),if_neg (show ¬ x.kind = 2 by omega),if_neg (show ¬ x.kind = 3 by omega)]
def accTo (t : T) (x : Tx) : Option (Nat × Nat):=if x.kind = 1 then acc t x.dst else some (0,0)
def doW (t : T) (x : Tx) : T × Nat :=
 if fineX x = false then (t,150) else
 match acc t x.frm,accTo t x with
 | some f,some tt =>
  if (f.2 : Int) ≠ x.seq ∨ f.2 = maxA then (t,160)
  else if (kindW t x f tt).2.1 = 0 then (put (kindW t x f tt).1 (Nib.of (aKey x.frm)) (writA ((kindW t x f tt).2.2,f.2 + 1)),0)
  else (t,(kindW t x f tt).2.1)
 | _,_=>(t,3)
theorem nameW_len {s : List UInt8} (h : nameW s = true) : 1 ≤ s.length ∧ s.length ≤ 6:=by
 simpa [nameW] using h
theorem keyed_a {n : List UInt8} (h : n.length ≤ 6) : keyedW (aKey n) = true:=by simp [keyedW,aKey]; omega
theorem keyed_d {n : List UInt8} (h : n.length ≤ 6) : keyedW (dKey n) = true:=by simp [keyedW,dKey]; omega
theorem keyed_s : keyedW sKey = true:=rfl
theorem writA_len {p : Nat × Nat} (h : p.1 ≤ 2000000000000) (h2 : p.2 ≤ 2000000000000) : 1 ≤ (writA p).length ∧ (writA p).length ≤ 18:=by
 have a:=numW_len p.1 (by omega)
 have b:=numW_len p.2 (by omega)
 have c : 1 ≤ (numW p.1).length:=by unfold numW; simp
 simp only [writA,List.length_append]
 omega
theorem ne_nil_of {l : List UInt8} (h : 1 ≤ l.length) : l ≠ []:=by intro e; rw [e] at h; simp at h
theorem good_putA {t : T} (h : Trie.Good t) {n : List UInt8} (hn : n.length ≤ 6) {p : Nat × Nat} (h1 : p.1 ≤ 2000000000000) (h2 : p.2 ≤ 2000000000000) : Trie.Good (put t (Nib.of (aKey n)) (writA p)):=by
 obtain ⟨a,b⟩:=writA_len h1 h2
 exact Trie.Good.put h (keyed_a hn) (ne_nil_of a) (by omega)
theorem putCode_a {n : List UInt8} (hn : n.length ≤ 6) {p : Nat × Nat} (h1 : p.1 ≤ 2000000000000) (h2 : p.2 ≤ 2000000000000) : putCode (aKey n) (writA p) = 0:=by
 obtain ⟨a,b⟩:=writA_len h1 h2
 unfold putCode
 rw [if_pos (keyed_a hn),if_neg]
 simp only [Bool.or_eq_true,decide_eq_true_eq,List.isEmpty_iff,not_or]
 exact ⟨ne_nil_of a,by omega⟩
theorem putCode_v {k v : List UInt8} (hk : keyedW k = true) (h1 : 1 ≤ v.length) (h2 : v.length ≤ 32) : putCode k v = 0:=by
 unfold putCode
 rw [if_pos hk,if_neg]
 simp only [Bool.or_eq_true,decide_eq_true_eq,List.isEmpty_iff,not_or]
 exact ⟨ne_nil_of h1,by omega⟩
theorem fineX_spec {x : Tx} (h : fineX x = true) : nameW x.frm = true ∧ 0 ≤ x.seq ∧ x.seq ≤ 1099511627776 ∧
    ((x.kind = 1 ∧ nameW x.dst = true ∧ 1 ≤ x.amt ∧ x.amt ≤ 1099511627776 ∧ x.key = [] ∧ x.val = [] ∧ x.mem = []) ∨
     (x.kind = 2 ∧ x.dst = [] ∧ x.amt = 0 ∧ x.mem = [] ∧ 1 ≤ x.val.length ∧ x.val.length ≤ 32 ∧ 1 ≤ x.key.length ∧ x.key.length ≤ 6) ∨
     (x.kind = 3 ∧ x.dst = [] ∧ x.amt = 0 ∧ x.mem = [] ∧ x.val = [] ∧ 1 ≤ x.key.length ∧ x.key.length ≤ 6) ∨
     (x.kind = 4 ∧ x.dst = [] ∧ x.amt = 0 ∧ x.key = [] ∧ x.val = [] ∧ okM x.mem = true)) := by
  simp only [fineX, headX, Bool.and_eq_true, decide_eq_true_eq] at h
  obtain ⟨⟨hb, ⟨h1, h2⟩, h3⟩, ho⟩ := h
  refine ⟨h1, h2, h3, ?_⟩
  unfold bareX at hb
  unfold ownX at ho
  by_cases k1 : x.kind = 1
  · rw [if_pos k1] at hb ho
    simp only [Bool.and_eq_true, decide_eq_true_eq, List.isEmpty_iff] at hb ho
    exact .inl ⟨k1, ho.1.1, ho.1.2, ho.2, hb.1.1, hb.1.2, hb.2⟩
  rw [if_neg k1] at hb ho
  by_cases k2 : x.kind = 2
  · rw [if_pos k2] at hb ho
    simp only [Bool.and_eq_true, decide_eq_true_eq, List.isEmpty_iff] at hb ho
    exact .inr (.inl ⟨k2, hb.1.1, hb.1.2, hb.2, ho.1.1, ho.1.2, ho.2.1, ho.2.2⟩)
  rw [if_neg k2] at hb ho
  by_cases k3 : x.kind = 3
  · rw [if_pos k3] at hb ho
    simp only [Bool.and_eq_true, decide_eq_true_eq, List.isEmpty_iff] at hb ho
    exact .inr (.inr (.inl ⟨k3, hb.1.1.1, hb.1.1.2, hb.1.2, hb.2, ho.1, ho.2⟩))
  rw [if_neg k3] at hb ho
  by_cases k4 : x.kind = 4
  · rw [if_pos k4] at hb
    simp only [Bool.and_eq_true, decide_eq_true_eq, List.isEmpty_iff] at hb
    exact .inr (.inr (.inr ⟨k4, hb.1.1, hb.1.2, hb.2.1, hb.2.2, ho⟩))
  · rw [if_neg k4] at hb; cases hb
theorem kindW_good {t : T} (h : Trie.Good t) {x : Tx} (hx : fineX x = true) {f tt : Nat × Nat} (hf : f.1 ≤ maxA) (ht : tt.1 ≤ maxA ∧ tt.2 ≤ maxA) :
  Trie.Good (kindW t x f tt).1 ∧ count (kindW t x f tt).1 ≤ count t + 1 ∧ (kindW t x f tt).2.2 ≤ maxA:=by
 obtain ⟨_,_,_,hk⟩:=fineX_spec hx
 unfold maxA at *
 unfold kindW
 rcases hk with ⟨k,hto,ha1,ha2,_⟩ | ⟨k,_,_,_,v1,v2,q1,q2⟩ | ⟨k,_,_,_,_,q1,q2⟩ | ⟨k,_,_,_,_,hm⟩
 ·rw [if_pos k]
  split
  ·exact ⟨h,by simp,by simp⟩
  split
  ·exact ⟨h,by simp,hf⟩
  split
  ·exact ⟨h,by simp,by simp⟩
  rename_i h3
  refine ⟨good_putA h (nameW_len hto).2 (by simp only; omega) (by simp only; omega),count_put _ _ _,by simp only; omega⟩
 ·rw [if_neg (by omega),if_pos k]
  exact ⟨Trie.Good.put h (keyed_d q2) (ne_nil_of v1) v2,count_put _ _ _,hf⟩
 ·rw [if_neg (by omega),if_neg (by omega),if_pos k]
  split
  ·rename_i hg
   have hl : Trie.look t (Nib.of (dKey x.key)) ≠ []:=by
    intro e
    unfold getW at hg
    rw [if_pos (keyed_d q2),e] at hg
    simp at hg
   refine ⟨Trie.Good.del h hl, ?_,hf⟩
   have:=count_del t (Nib.of (dKey x.key)) h.wf (Nib.fit_of _) hl
   simp only; omega
  ·exact ⟨h,by simp,by simp⟩
 ·rw [if_neg (by omega),if_neg (by omega),if_neg (by omega)]
  split
  ·refine ⟨Trie.Good.put h keyed_s (ne_nil_of (by rw [digM_len hm]; omega)) (by rw [digM_len hm]; omega),count_put _ _ _,hf⟩
  ·exact ⟨h,by simp,by simp⟩
theorem doW_good {t : T} (h : Trie.Good t) (x : Tx) : Trie.Good (doW t x).1 ∧ count (doW t x).1 ≤ count t + 2:=by
 unfold doW
 split
 ·exact ⟨h,by simp⟩
 rename_i hx
 have hx : fineX x = true:=by simpa using hx
 split
 ·rename_i f tt hf ht
  have hle : tt.1 ≤ maxA ∧ tt.2 ≤ maxA:=by
   unfold accTo at ht
   split at ht
   ·exact acc_le ht
   ·injection ht with ht; subst ht; exact ⟨by simp,by simp⟩
  obtain ⟨g1,g2,g3⟩:=kindW_good h hx (acc_le hf).1 hle
  have hs:=(acc_le hf).2
  unfold maxA at g3 hs
  split
  ·exact ⟨h,by simp⟩
  split
  ·refine ⟨good_putA g1 (nameW_len (fineX_spec hx).1).2 (by simp only; omega) (by simp only; omega), ?_⟩
   have:=count_put (kindW t x f tt).1 (Nib.of (aKey x.frm)) (writA ((kindW t x f tt).2.2,f.2 + 1))
   simp only; omega
  ·exact ⟨h,by simp⟩
 ·exact ⟨h,by simp⟩
abbrev Rc:=Int × List UInt8 × Int
def allGo : T → List Tx → List Mem → T × List Rc × List Mem
  | t, [], m => (t, [], m)
  | t, x :: r, m =>
    ((allGo (doW t x).1 r (if (doW t x).2 = 0 ∧ x.kind = 4 then x.mem else m)).1,
     (((doW t x).2 : Int), x.frm, x.seq) :: (allGo (doW t x).1 r (if (doW t x).2 = 0 ∧ x.kind = 4 then x.mem else m)).2.1,
     (allGo (doW t x).1 r (if (doW t x).2 = 0 ∧ x.kind = 4 then x.mem else m)).2.2)
theorem allGo_good : ∀ (l : List Tx) (t : T) (m : List Mem),Trie.Good t → Trie.Good (allGo t l m).1 ∧ count (allGo t l m).1 ≤ count t + 2 * l.length ∧ (allGo t l m).2.1.length = l.length
 | [],t,m,h=>⟨h,by simp [allGo],rfl⟩
 | x :: r,t,m,h=>by
  obtain ⟨h1,h2⟩:=doW_good h x
  obtain ⟨h3,h4,h5⟩:=allGo_good r _ (if (doW t x).2 = 0 ∧ x.kind = 4 then x.mem else m) h1
  refine ⟨h3, ?_, ?_⟩
  ·simp only [allGo,List.length_cons]; omega
  ·simp only [allGo,List.length_cons,h5]
theorem allGo_append : ∀ (l r : List Tx) (t : T) (m : List Mem),allGo t (l ++ r) m = ((allGo (allGo t l m).1 r (allGo t l m).2.2).1,(allGo t l m).2.1 ++ (allGo (allGo t l m).1 r (allGo t l m).2.2).2.1,(allGo (allGo t l m).1 r (allGo t l m).2.2).2.2)
 | [],r,t,m=>by simp [allGo]
 | x :: l,r,t,m=>by
  simp only [List.cons_append,allGo]
  rw [allGo_append l r]
abbrev Ac:=List UInt8 × Int × Int
def okA (a : Ac) : Bool:=nameW a.1 && (decide (0 ≤ a.2.1) && decide (a.2.1 ≤ 1099511627776)) && (decide (0 ≤ a.2.2) && decide (a.2.2 ≤ 1099511627776))
def genA : T → List Ac → T × Nat
 | t, []=>(t,0)
 | t,a :: r=>if okA a = false then (t,1) else if (getW t (aKey a.1)).2 = 0 then (t,6) else genA (put t (Nib.of (aKey a.1)) (writA (a.2.1.toNat,a.2.2.toNat))) r
def genW (l : List Ac) (set : List Mem) : T × Nat :=
 if 8 < l.length then (.nil,2) else if (genA .nil l).2 ≠ 0 then (.nil,(genA .nil l).2) else if okM set = false then (.nil,50)
 else (put (genA .nil l).1 (Nib.of sKey) (digM set),0)
theorem okA_spec {a : Ac} (h : okA a = true) : nameW a.1 = true ∧ 0 ≤ a.2.1 ∧ a.2.1 ≤ 1099511627776 ∧ 0 ≤ a.2.2 ∧ a.2.2 ≤ 1099511627776:=by
 simp only [okA,Bool.and_eq_true,decide_eq_true_eq] at h
 exact ⟨h.1.1,h.1.2.1,h.1.2.2,h.2.1,h.2.2⟩
theorem genA_good : ∀ (l : List Ac) (t : T),Trie.Good t → Trie.Good (genA t l).1 ∧ count (genA t l).1 ≤ count t + l.length
 | [],t,h=>⟨h,by simp [genA]⟩
 | a :: r,t,h=>by
  simp only [genA]
  split
  ·exact ⟨h,by simp⟩
  rename_i ha
  obtain ⟨a1,a2,a3,a4,a5⟩:=okA_spec (a:=a) (by simpa using ha)
  split
  ·exact ⟨h,by simp⟩
  obtain ⟨g1,g2⟩:=genA_good r _ (good_putA (t:=t) h (nameW_len a1).2 (p:=(a.2.1.toNat,a.2.2.toNat)) (by simp only; omega) (by simp only; omega))
  have:=count_put t (Nib.of (aKey a.1)) (writA (a.2.1.toNat,a.2.2.toNat))
  exact ⟨g1,by simp only [List.length_cons]; omega⟩
theorem genW_good (l : List Ac) (set : List Mem) : Trie.Good (genW l set).1 ∧ count (genW l set).1 ≤ 9:=by
 unfold genW
 split
 ·exact ⟨Trie.Good.nil,by simp [count]⟩
 split
 ·exact ⟨Trie.Good.nil,by simp [count]⟩
 split
 ·exact ⟨Trie.Good.nil,by simp [count]⟩
 rename_i h1 _ hm
 have hm : okM set = true:=by simpa using hm
 obtain ⟨g1,g2⟩:=genA_good l .nil Trie.Good.nil
 refine ⟨Trie.Good.put g1 keyed_s (ne_nil_of (by rw [digM_len hm]; omega)) (by rw [digM_len hm]; omega), ?_⟩
 have:=count_put (genA .nil l).1 (Nib.of sKey) (digM set)
 simp only [count] at g2
 simp only; omega
end Ex
namespace Ex
open Pw Trie
theorem getW_put {t : T} (h : Trie.Good t) {k v : List UInt8} (hk : keyedW k = true) (hv : v ≠ []) (q : List UInt8) : getW (put t (Nib.of k) v) q = if q = k then (v,0) else getW t q:=by
 unfold getW
 rw [(put_spec t (Nib.of k) v h.wf (Nib.fit_of k) hv).2.1 _ (Nib.fit_of q)]
 by_cases e : q = k
 ·subst e
  rw [if_pos hk,if_pos rfl,if_pos rfl,if_neg (by simpa using hv)]
 ·rw [if_neg (fun e2=>e (Nib.of_inj e2)),if_neg e]
theorem getW_del {t : T} (h : Trie.Good t) {k : List UInt8} (hk : keyedW k = true) (hl : Trie.look t (Nib.of k) ≠ []) (q : List UInt8) : getW (del t (Nib.of k)) q = if q = k then ([],5) else getW t q:=by
 unfold getW
 rw [(del_spec t (Nib.of k) h.wf (Nib.fit_of k) hl).2.1 _ (Nib.fit_of q)]
 by_cases e : q = k
 ·subst e
  rw [if_pos hk,if_pos rfl,if_pos rfl]; rfl
 ·rw [if_neg (fun e2=>e (Nib.of_inj e2)),if_neg e]
theorem look_get {t : T} {k : List UInt8} (h : (getW t k).2 = 0) : Trie.look t (Nib.of k) ≠ []:=by
 unfold getW at h
 split at h
 ·split at h
  ·cases h
  ·rename_i h2; simpa using h2
 ·cases h
theorem acc_cong {t u : T} {n : List UInt8} (h : getW u (aKey n) = getW t (aKey n)) : acc u n = acc t n:=by unfold acc; rw [h]
theorem aKey_inj {m n : List UInt8} (h : aKey m = aKey n) : m = n:=by simpa [aKey] using h
theorem dKey_inj {m n : List UInt8} (h : dKey m = dKey n) : m = n:=by simpa [dKey] using h
theorem aKey_dKey (m n : List UInt8) : aKey m ≠ dKey n:=by simp [aKey,dKey]
theorem aKey_sKey (m : List UInt8) : aKey m ≠ sKey:=by simp [aKey,sKey]
theorem dKey_sKey (m : List UInt8) : dKey m ≠ sKey:=by simp [dKey,sKey]
theorem acc_putA {t : T} (h : Trie.Good t) {n : List UInt8} (hn : n.length ≤ 6) {p : Nat × Nat} (h1 : p.1 ≤ maxA) (h2 : p.2 ≤ maxA) (m : List UInt8) : acc (put t (Nib.of (aKey n)) (writA p)) m = if m = n then some p else acc t m:=by
 have hw:=writA_len (p:=p) (by unfold maxA at h1; omega) (by unfold maxA at h2; omega)
 unfold acc
 rw [getW_put h (keyed_a hn) (ne_nil_of hw.1)]
 by_cases e : m = n
 ·subst e
  rw [if_pos rfl,if_pos rfl,if_pos rfl]
  exact parseA_writA h1 h2
 ·rw [if_neg (fun e2=>e (aKey_inj e2)),if_neg e]
theorem acc_put {t : T} (h : Trie.Good t) {k v : List UInt8} (hk : keyedW k = true) (hv : v ≠ []) (m : List UInt8) (hne : aKey m ≠ k) : acc (put t (Nib.of k) v) m = acc t m :=
 acc_cong (by rw [getW_put h hk hv,if_neg hne])
structure Done (t : T) (x : Tx) where
 f : Nat × Nat
 tt : Nat × Nat
 hf : acc t x.frm = some f
 ht : accTo t x = some tt
 hs : (f.2 : Int) = x.seq
 hm : f.2 < maxA
 hk : (kindW t x f tt).2.1 = 0
 hd : doW t x = (put (kindW t x f tt).1 (Nib.of (aKey x.frm)) (writA ((kindW t x f tt).2.2,f.2 + 1)),0)
theorem doW_done {t : T} {x : Tx} (h : (doW t x).2 = 0) : fineX x = true ∧ Nonempty (Done t x):=by
 unfold doW at h
 split at h
 ·cases h
 rename_i hx
 refine ⟨by simpa using hx, ?_⟩
 split at h
 ·rename_i f tt hf ht
  split at h
  ·cases h
  rename_i hs
  simp only [not_or,Decidable.not_not] at hs
  split at h
  ·rename_i hk
   refine ⟨f,tt,hf,ht,hs.1, ?_,hk, ?_⟩
   ·have:=(acc_le hf).2; have:=hs.2; omega
   ·unfold doW
    rw [if_neg hx]
    simp only [hf,ht]
    rw [if_neg (by simp [hs.1]; exact hs.2),if_pos hk]
  ·rename_i hk; exact absurd h hk
 ·cases h
theorem Done.to_le {t : T} {x : Tx} (d : Done t x) : d.tt.1 ≤ maxA ∧ d.tt.2 ≤ maxA:=by
 have:=d.ht
 unfold accTo at this
 split at this
 ·exact acc_le this
 ·injection this with this; rw [← this]; exact ⟨by simp,by simp⟩
theorem Done.good {t : T} {x : Tx} (d : Done t x) (h : Trie.Good t) (hx : fineX x = true) : Trie.Good (kindW t x d.f d.tt).1 ∧ (kindW t x d.f d.tt).2.2 ≤ maxA :=
 ⟨(kindW_good h hx (acc_le d.hf).1 d.to_le).1,(kindW_good h hx (acc_le d.hf).1 d.to_le).2.2⟩
theorem kindW_get {t : T} {x : Tx} (d : Done t x) (h : Trie.Good t) (hx : fineX x = true) (q : List UInt8) :
  getW (kindW t x d.f d.tt).1 q =
   if x.kind = 1 then (if x.dst ≠ x.frm ∧ q = aKey x.dst then (writA (d.tt.1 + x.amt.toNat,d.tt.2),0) else getW t q)
   else if x.kind = 2 then (if q = dKey x.key then (x.val,0) else getW t q)
   else if x.kind = 3 then (if q = dKey x.key then ([],5) else getW t q)
   else (if q = sKey then (digM x.mem,0) else getW t q):=by
 obtain ⟨_,_,_,hk⟩:=fineX_spec hx
 have hz:=d.hk
 have hle:=d.to_le
 unfold maxA at hle
 rcases hk with ⟨k,hto,ha1,ha2,_⟩ | ⟨k,_,_,_,v1,v2,q1,q2⟩ | ⟨k,_,_,_,_,q1,q2⟩ | ⟨k,_,_,_,_,hm⟩
 ·rw [kindW_1 k] at hz ⊢
  rw [if_pos k]
  split at hz
  ·cases hz
  rename_i h1
  rw [if_neg h1]
  by_cases h2 : x.dst = x.frm
  ·rw [if_pos h2,if_neg (fun e=>e.1 h2)]
  ·rw [if_neg h2] at hz ⊢
   split at hz
   ·cases hz
   rename_i h3
   rw [if_neg h3]
   have hw:=writA_len (p:=(d.tt.1 + x.amt.toNat,d.tt.2)) (by simp only; omega) (by simp only; omega)
   rw [getW_put h (keyed_a (nameW_len hto).2) (ne_nil_of hw.1)]
   by_cases e : q = aKey x.dst
   ·rw [if_pos e,if_pos ⟨h2,e⟩]
   ·rw [if_neg e,if_neg (fun e2=>e e2.2)]
 ·rw [kindW_2 k,if_neg (show ¬ x.kind = 1 by omega),if_pos k]
  exact getW_put h (keyed_d q2) (ne_nil_of v1) q
 ·rw [kindW_3 k] at hz ⊢
  rw [if_neg (show ¬ x.kind = 1 by omega),if_neg (show ¬ x.kind = 2 by omega),if_pos k]
  split at hz
  ·rename_i hg
   rw [if_pos hg]
   exact getW_del h (keyed_d q2) (look_get hg) q
  ·rename_i hg; exact absurd hz hg
 ·rw [kindW_4 k] at hz ⊢
  rw [if_neg (show ¬ x.kind = 1 by omega),if_neg (show ¬ x.kind = 2 by omega),if_neg (show ¬ x.kind = 3 by omega)]
  split at hz
  ·rename_i hr
   rw [if_pos hr]
   exact getW_put h keyed_s (ne_nil_of (by rw [digM_len hm]; omega)) q
  ·cases hz
theorem do_get {t : T} {x : Tx} (d : Done t x) (h : Trie.Good t) (hx : fineX x = true) (q : List UInt8) :
  getW (doW t x).1 q = if q = aKey x.frm then (writA ((kindW t x d.f d.tt).2.2,d.f.2 + 1),0) else getW (kindW t x d.f d.tt).1 q:=by
 rw [d.hd]
 obtain ⟨g1,g2⟩:=d.good h hx
 have hm:=d.hm
 unfold maxA at g2 hm
 have hw:=writA_len (p:=((kindW t x d.f d.tt).2.2,d.f.2 + 1)) (by simp only; omega) (by show d.f.2 + 1 ≤ 2000000000000; have e : maxA = 1099511627776:=rfl; omega)
 exact getW_put g1 (keyed_a (nameW_len (fineX_spec hx).1).2) (ne_nil_of hw.1) q
theorem do_accF {t : T} {x : Tx} (d : Done t x) (h : Trie.Good t) (hx : fineX x = true) : acc (doW t x).1 x.frm = some ((kindW t x d.f d.tt).2.2,d.f.2 + 1):=by
 obtain ⟨g1,g2⟩:=d.good h hx
 have hm:=d.hm
 unfold acc
 rw [do_get d h hx,if_pos rfl]
 exact (if_pos rfl).trans (parseA_writA g2 hm)
theorem do_accT {t : T} {x : Tx} (d : Done t x) (h : Trie.Good t) (hx : fineX x = true) (k1 : x.kind = 1) (hne : x.dst ≠ x.frm) : acc (doW t x).1 x.dst = some (d.tt.1 + x.amt.toNat,d.tt.2):=by
 have hle:=d.to_le
 have hz:=d.hk
 unfold acc
 rw [do_get d h hx,if_neg (fun e=>hne (aKey_inj e)),kindW_get d h hx,if_pos k1,if_pos (show x.dst ≠ x.frm ∧ aKey x.dst = aKey x.dst from ⟨hne,rfl⟩)]
 refine (if_pos rfl).trans (parseA_writA ?_ hle.2)
 rw [kindW_1 k1] at hz
 split at hz
 ·cases hz
 split at hz
 ·cases hz
 rename_i h3
 unfold maxA
 have:=(fineX_spec hx).2.2.2
 omega
theorem do_accO {t : T} {x : Tx} (d : Done t x) (h : Trie.Good t) (hx : fineX x = true) (n : List UInt8) (h1 : n ≠ x.frm) (h2 : n ≠ x.dst) : getW (doW t x).1 (aKey n) = getW t (aKey n):=by
 rw [do_get d h hx,if_neg (fun e=>h1 (aKey_inj e)),kindW_get d h hx]
 split
 ·rw [if_neg (fun e=>h2 (aKey_inj e.2))]
 split
 ·rw [if_neg (aKey_dKey _ _)]
 split
 ·rw [if_neg (aKey_dKey _ _)]
 ·rw [if_neg (aKey_sKey _)]
theorem do_dataO {t : T} {x : Tx} (d : Done t x) (h : Trie.Good t) (hx : fineX x = true) (k : List UInt8) (h1 : k ≠ x.key) : getW (doW t x).1 (dKey k) = getW t (dKey k):=by
 rw [do_get d h hx,if_neg (fun e=>(aKey_dKey _ _ e.symm)),kindW_get d h hx]
 split
 ·rw [if_neg (fun e=>(aKey_dKey _ _ e.2.symm))]
 split
 ·rw [if_neg (fun e=>h1 (dKey_inj e))]
 split
 ·rw [if_neg (fun e=>h1 (dKey_inj e))]
 ·rw [if_neg (dKey_sKey _)]
theorem do_set {t : T} {x : Tx} (d : Done t x) (h : Trie.Good t) (hx : fineX x = true) : getW (doW t x).1 sKey = if x.kind = 4 then (digM x.mem,0) else getW t sKey:=by
 rw [do_get d h hx,if_neg (fun e=>(aKey_sKey _ e.symm)),kindW_get d h hx]
 rcases (fineX_spec hx).2.2.2 with ⟨k,_⟩ | ⟨k,_⟩ | ⟨k,_⟩ | ⟨k,_⟩
 ·rw [if_pos k,if_neg (fun e=>(aKey_sKey _ e.2.symm)),if_neg (by omega)]
 ·rw [if_neg (by omega),if_pos k,if_neg (fun e=>(dKey_sKey _ e.symm)),if_neg (by omega)]
 ·rw [if_neg (by omega),if_neg (by omega),if_pos k,if_neg (fun e=>(dKey_sKey _ e.symm)),if_neg (by omega)]
 ·rw [if_neg (by omega),if_neg (by omega),if_neg (by omega),if_pos rfl,if_pos k]
theorem do_put {t : T} {x : Tx} (d : Done t x) (h : Trie.Good t) (hx : fineX x = true) (k : x.kind = 2) : getW (doW t x).1 (dKey x.key) = (x.val,0):=by
 rw [do_get d h hx,if_neg (fun e=>(aKey_dKey _ _ e.symm)),kindW_get d h hx,if_neg (by omega),if_pos k,if_pos rfl]
theorem do_del {t : T} {x : Tx} (d : Done t x) (h : Trie.Good t) (hx : fineX x = true) (k : x.kind = 3) : getW (doW t x).1 (dKey x.key) = ([],5):=by
 rw [do_get d h hx,if_neg (fun e=>(aKey_dKey _ _ e.symm)),kindW_get d h hx,if_neg (by omega),if_neg (by omega),if_pos k,if_pos rfl]
theorem do_once {t : T} (h : Trie.Good t) {x : Tx} (hd : (doW t x).2 = 0) : doW (doW t x).1 x = ((doW t x).1,160):=by
 obtain ⟨hx,⟨d⟩⟩:=doW_done hd
 have hF:=do_accF d h hx
 have hT : ∃ p,accTo (doW t x).1 x = some p:=by
  unfold accTo
  split
  ·rename_i k1
   by_cases hne : x.dst = x.frm
   ·rw [hne]; exact ⟨_,hF⟩
   ·exact ⟨_,do_accT d h hx k1 hne⟩
  ·exact ⟨_,rfl⟩
 obtain ⟨p,hT⟩:=hT
 generalize (doW t x).1 = u at *
 unfold doW
 rw [if_neg (by simp [hx])]
 simp only [hF,hT]
 rw [if_pos (.inl (by have:=d.hs; omega))]
theorem doW_same {t : T} {x : Tx} (hd : (doW t x).2 ≠ 0) : (doW t x).1 = t:=by
 unfold doW at hd ⊢
 split
 ·rfl
 rename_i hx
 rw [if_neg hx] at hd
 split
 ·rename_i f tt hf ht
  rw [hf,ht] at hd
  simp only at hd
  split
  ·rfl
  rename_i hs
  rw [if_neg hs] at hd
  split
  ·rename_i hk; rw [if_pos hk] at hd; exact absurd rfl hd
  ·rfl
 ·rfl
end Ex
end Go.Proofs.YtomnlhbioijfhaaDoor
namespace Go.Proofs.YtomnlhbioijfhaaDoor
open Go.RowKit Go.Instr
attribute [local go_sem] ba_get ByteArray.mk_append_mk
theorem nameW_eq (s : List UInt8) : Ex.nameW s = (!s.isEmpty && decide (s.length ≤ 6)):=by
 unfold Ex.nameW
 cases s <;> simp
theorem exec_name (s : List UInt8) (hl : s.length ≤ 9223372036854775807) (w : World) :
  Calls Tryd.prog 29 #[.string ⟨s.toArray⟩] w fun e w'=>e = .returned (.bool (Ex.nameW s)) ∧ w = w':=by
 have HP : Hid (∀ b w',Ex.nameW s = b → w = w' → (fun e w'=>e = Ending.returned (.bool (Ex.nameW s)) ∧ w = w') (Ending.returned (.bool b)) w'):=Lib.hid (fun b w' h1 h2=>⟨by rw [h1],h2⟩)
 generalize (fun e w'=>e = Ending.returned (.bool (Ex.nameW s)) ∧ w = w') = P at HP ⊢
 by_cases h0 : s = []
 ·subst h0
  go_enter Tryd.func29,Tryd.ntmps29
  go_wp2
  exact HP.out _ _ rfl rfl
 ·have ne1 : (s.toArray = #[]) = False:=by simp [h0]
  have ne2 : s.isEmpty = false:=by cases s <;> simp_all
  by_cases h8 : s.length ≤ 6
  ·have h8' : (s.length : Int) ≤ 6:=by omega
   go_enter Tryd.func29,Tryd.ntmps29
   go_wp2
   exact HP.out _ _ (by simp [nameW_eq,ne2,h8]) rfl
  ·have h8' : ((s.length : Int) ≤ 6) = False:=by simp; omega
   go_enter Tryd.func29,Tryd.ntmps29
   go_wp2
   exact HP.out _ _ (by simp [nameW_eq,ne2,h8]) rfl
theorem tx_name (s : List UInt8) (hl : s.length ≤ 9223372036854775807) (w : World) :
  Calls Tryd.prog 56 #[.string ⟨s.toArray⟩] w fun e w'=>e = .returned (.bool (Ex.nameW s)) ∧ w = w':=by
 have HP : Hid (∀ b w',Ex.nameW s = b → w = w' → (fun e w'=>e = Ending.returned (.bool (Ex.nameW s)) ∧ w = w') (Ending.returned (.bool b)) w'):=Lib.hid (fun b w' h1 h2=>⟨by rw [h1],h2⟩)
 generalize (fun e w'=>e = Ending.returned (.bool (Ex.nameW s)) ∧ w = w') = P at HP ⊢
 by_cases h0 : s = []
 ·subst h0
  go_enter Tryd.func56,Tryd.ntmps56
  go_wp2
  exact HP.out _ _ rfl rfl
 ·have ne1 : (s.toArray = #[]) = False:=by simp [h0]
  have ne2 : s.isEmpty = false:=by cases s <;> simp_all
  by_cases h8 : s.length ≤ 6
  ·have h8' : (s.length : Int) ≤ 6:=by omega
   go_enter Tryd.func56,Tryd.ntmps56
   go_wp2
   exact HP.out _ _ (by simp [nameW_eq,ne2,h8]) rfl
  ·have h8' : ((s.length : Int) ≤ 6) = False:=by simp; omega
   go_enter Tryd.func56,Tryd.ntmps56
   go_wp2
   exact HP.out _ _ (by simp [nameW_eq,ne2,h8]) rfl
theorem exec_within (n : Int) (w : World) :
  Calls Tryd.prog 33 #[.int .i64 n] w fun e w'=>e = .returned (.bool (decide (0 ≤ n) && decide (n ≤ 1099511627776))) ∧ w = w':=by
 have HP : Hid (∀ b w',(decide (0 ≤ n) && decide (n ≤ 1099511627776)) = b → w = w' → (fun e w'=>e = Ending.returned (.bool (decide (0 ≤ n) && decide (n ≤ 1099511627776))) ∧ w = w') (Ending.returned (.bool b)) w'):=Lib.hid (fun b w' h1 h2=>⟨by rw [h1],h2⟩)
 generalize (fun e w'=>e = Ending.returned (.bool (decide (0 ≤ n) && decide (n ≤ 1099511627776))) ∧ w = w') = P at HP ⊢
 by_cases h0 : 0 ≤ n
 ·have h0' : (0 ≤ n) = True:=by simp [h0]
  by_cases h8 : n ≤ 1099511627776
  ·have h8' : (n ≤ 1099511627776) = True:=by simp [h8]
   go_enter Tryd.func33,Tryd.ntmps33
   go_wp2
   exact HP.out _ _ (by simp [h0,h8]) rfl
  ·have h8' : (n ≤ 1099511627776) = False:=by simp; omega
   go_enter Tryd.func33,Tryd.ntmps33
   go_wp2
   exact HP.out _ _ (by simp [h0]; omega) rfl
 ·have h0' : (0 ≤ n) = False:=by simp; omega
  go_enter Tryd.func33,Tryd.ntmps33
  go_wp2
  exact HP.out _ _ (by simp; omega) rfl
set_option maxRecDepth 100000 in
theorem exec_written (n : List UInt8) (a q : Nat) (ha : a ≤ 4000000000000) (hq : q ≤ 4000000000000) (w : World) :
  Calls Tryd.prog 45 #[.agg #[.string ⟨n.toArray⟩,.int .i64 (a : Int),.int .i64 (q : Int)]] w (Ret w (.string ⟨(Ex.writA (a,q)).toArray⟩)):=by
 have HP : Hid (∀ w',Below w.heap.size w w' → Ret w (.string ⟨(Ex.writA (a,q)).toArray⟩) (.returned (.string ⟨(numW a ++ numW q).toArray⟩)) w'):=Lib.hid (fun w' h=>⟨rfl,h⟩)
 generalize Ret w (.string ⟨(Ex.writA (a,q)).toArray⟩) = P at HP ⊢
 have HA:=Lib.hid (fun W=>code_Num a (by omega) W)
 have HQ:=Lib.hid (fun W=>code_Num q (by omega) W)
 have l1:=numW_len a (by omega)
 have l2:=numW_len q (by omega)
 have HLn:=Lib.hid (And.intro l1 l2)
 clear ha hq l1 l2
 go_enter Tryd.func45,Tryd.ntmps45
 go_upto_region 1 with fail
 have F0:=Live.ha (Lib.hid (Live.start w)) #[.string ⟨n.toArray⟩,.int .i64 (a : Int),.int .i64 (q : Int)] 40
 generalize w.alloc (.cells #[.string ⟨n.toArray⟩,.int .i64 (a : Int),.int .i64 (q : Int)] 40) = W0 at F0 ⊢
 generalize w.heap.size = ab at F0 ⊢
 have k0_0 : W0.cell? ⟨ab,0,none⟩ = some (.string ⟨n.toArray⟩):=F0.out.cell 0 0 rfl rfl; have k0_1 : W0.cell? ⟨ab,1,none⟩ = some (.int .i64 (a : Int)):=F0.out.cell 0 1 rfl rfl; have k0_2 : W0.cell? ⟨ab,2,none⟩ = some (.int .i64 (q : Int)):=F0.out.cell 0 2 rfl rfl
 go_wp2_with fail
 refine (HA.out _).mono ?_
 rintro e w1 ⟨rfl,hb⟩
 have F1:=Live.hb F0 hb
 clear hb F0 k0_0 k0_1 k0_2 HA
 have k0_0 : w1.cell? ⟨ab,0,none⟩ = some (.string ⟨n.toArray⟩):=F1.out.cell 0 0 rfl rfl; have k0_1 : w1.cell? ⟨ab,1,none⟩ = some (.int .i64 (a : Int)):=F1.out.cell 0 1 rfl rfl; have k0_2 : w1.cell? ⟨ab,2,none⟩ = some (.int .i64 (q : Int)):=F1.out.cell 0 2 rfl rfl
 go_wp2_with fail
 refine (HQ.out _).mono ?_
 rintro e w2 ⟨rfl,hb⟩
 have F2:=Live.hb F1 hb
 clear hb F1 k0_0 k0_1 k0_2 HQ
 obtain ⟨l1,l2⟩:=HLn.out
 generalize numW a = X at *
 generalize numW q = Y at *
 have m1 : X.length + Y.length ≤ 9223372036854775807:=by omega
 clear l1 l2
 go_wp2
 exact HP.out _ F2.out.b
end Go.Proofs.YtomnlhbioijfhaaDoor
namespace Go.Proofs.YtomnlhbioijfhaaDoor
open Go.RowKit Go.Instr
attribute [local go_sem] ba_get ByteArray.mk_append_mk
attribute [local go_sem ↓] Go.wp_at_zero Go.wp_at_succ
theorem Rdr.lower {w w' : World} {B g : Nat} {s : List UInt8 × Nat} (h : Rdr w g s) (hb : Below B w w') (hg : g < B) : Rdr w' g s:=by
 obtain ⟨all,a,h1,h2⟩:=h
 exact ⟨all,a,Blk.below h1 hb hg,h2⟩
def accW (t : Trie.T) (n : List UInt8) : (List UInt8 × Nat × Nat) × Nat :=
 if Ex.nameW n then (match Ex.acc t n with | some p=>((n,p.1,p.2),0) | none=>(([],0,0),3)) else (([],0,0),1)
def AccEnd (w : World) (r : (List UInt8 × Nat × Nat) × Nat) (e : Ending) (w' : World) : Prop :=
 e = .returned (.tuple #[.agg #[.string ⟨r.1.1.toArray⟩,.int .i64 (r.1.2.1 : Int),.int .i64 (r.1.2.2 : Int)],.int .i64 (r.2 : Int)]) ∧ Below w.heap.size w w'
theorem look_len {t : Trie.T} (h : Trie.Good t) (k : List UInt8) : (Trie.look t (Nib.of k)).length ≤ 32:=by
 by_cases e : Trie.look t (Nib.of k) = []
 ·rw [e]; simp
 ·exact (h.small _ (Nib.fit_of k) e).2
theorem getW_len {t : Trie.T} (h : Trie.Good t) (k : List UInt8) : (Trie.getW t k).1.length ≤ 32:=by
 unfold Trie.getW
 split
 ·split
  ·simp
  ·exact look_len h k
 ·simp
set_option maxRecDepth 100000 in
set_option maxHeartbeats 2000000 in
theorem exec_Account (w : World) (t : Trie.T) (v : Value) (h : TrieP w t v) (n : List UInt8) (hl : n.length ≤ 9223372036854775807) :
  Calls Tryd.prog 12 #[v,.string ⟨n.toArray⟩] w (AccEnd w (accW t n)):=by
 have HP : Hid (∀ m (a q c : Nat) w',accW t n = ((m,a,q),c) → Below w.heap.size w w' → AccEnd w (accW t n) (.returned (.tuple #[.agg #[.string ⟨m.toArray⟩,.int .i64 (a : Int),.int .i64 (q : Int)],.int .i64 (c : Int)])) w'):=Lib.hid (fun m a q c w' e h=>by rw [e]; exact ⟨rfl,h⟩)
 have HX : Hid (accW t n = if Ex.nameW n then (match (if (Trie.getW t (97 :: 58 :: n)).2 = 0 then Ex.parseA (Trie.getW t (97 :: 58 :: n)).1 else some (0,0)) with | some p=>((n,p.1,p.2),0) | none=>(([],0,0),3)) else (([],0,0),1)):=Lib.hid rfl
 generalize AccEnd w (accW t n) = P at HP ⊢
 generalize accW t n = X at *
 have HN:=Lib.hid (fun W=>exec_name n (by omega) W)
 have HGt:=Lib.hid (fun W (h6 : n.length ≤ 6) (hW : Below w.heap.size w W)=>trie_Get W t v (h.next hW) (97 :: 58 :: n) (by simp only [List.length_cons]; omega))
 have hvl:=getW_len h.1 (97 :: 58 :: n)
 generalize Trie.getW t (97 :: 58 :: n) = r at *
 obtain ⟨vl,cd⟩:=r
 simp only at HX hvl
 unfold TGetEnd at HGt
 simp only at HGt
 clear h hl
 go_enter Tryd.func12,Tryd.ntmps12
 go_upto_region 1 with fail
 have F0:=Live.ha (Lib.hid (Live.start w)) #[.string ⟨#[]⟩,.int .i64 0,.int .i64 0] 40
 generalize w.alloc (.cells #[.string ⟨#[]⟩,.int .i64 0,.int .i64 0] 40) = W0 at F0 ⊢
 generalize w.heap.size = rb at F0 ⊢
 cases hn : Ex.nameW n with
 | false =>
  have HE : Hid (X = (([],0,0),1)):=Lib.hid (by rw [HX.out,hn]; rfl)
  rw [hn] at HN
  clear HX hn
  go_wp2_with fail
  refine (HN.out _).mono ?_
  rintro e w1 ⟨rfl,rfl⟩
  have r0 : W0.cell? ⟨rb,0,none⟩ = some (.string ⟨#[]⟩):=F0.out.cell 0 0 rfl rfl
  have r1 : W0.cell? ⟨rb,1,none⟩ = some (.int .i64 0):=F0.out.cell 0 1 rfl rfl
  have r2 : W0.cell? ⟨rb,2,none⟩ = some (.int .i64 0):=F0.out.cell 0 2 rfl rfl
  have f0 : W0.frozen? ⟨rb,0,none⟩ = false:=F0.out.frozen 0 0 rfl
  have f1 : W0.frozen? ⟨rb,1,none⟩ = false:=F0.out.frozen 0 1 rfl
  have f2 : W0.frozen? ⟨rb,2,none⟩ = false:=F0.out.frozen 0 2 rfl
  go_wp2_with fail
  have F9 : Hid (Live w (((W0.setCell ⟨rb,0,none⟩ (.string ⟨#[]⟩)).setCell ⟨rb,1,none⟩ (.int .i64 0)).setCell ⟨rb,2,none⟩ (.int .i64 0)) [(rb,40,#[.string ⟨#[]⟩,.int .i64 0,.int .i64 0])]):=Lib.hid (((F0.out.set 0 0 _ rfl).set 0 1 _ rfl).set 0 2 _ rfl)
  generalize ((W0.setCell ⟨rb,0,none⟩ (.string ⟨#[]⟩)).setCell ⟨rb,1,none⟩ (.int .i64 0)).setCell ⟨rb,2,none⟩ (.int .i64 0) = W9 at F9 ⊢
  have s0 : W9.cell? ⟨rb,0,none⟩ = some (.string ⟨#[]⟩):=F9.out.cell 0 0 rfl rfl
  have s1 : W9.cell? ⟨rb,1,none⟩ = some (.int .i64 0):=F9.out.cell 0 1 rfl rfl
  have s2 : W9.cell? ⟨rb,2,none⟩ = some (.int .i64 0):=F9.out.cell 0 2 rfl rfl
  (try simp only [Exit.inBlock,Exit.then])
  refine bodyPost_ret (v:=.tuple #[.agg #[.string ⟨#[]⟩,.int .i64 0,.int .i64 0],.int .i64 1]) (by simp [results,Tryd.results12,go_sem,s0,s1,s2]) rfl ?_
  exact HP.out [] 0 0 1 _ HE.out F9.out.b
 | true =>
 rw [hn] at HN HX
 rw [if_pos rfl] at HX
 have hn6:=(Ex.nameW_len hn).2
 have HN6:=Lib.hid hn6
 have hsum : 2 + n.length ≤ 9223372036854775807:=by omega
 have hsum2 : n.length + 2 ≤ 9223372036854775807:=by omega
 have hsum3 : n.length + 1 + 1 ≤ 9223372036854775807:=by omega
 clear hn hn6
 go_wp2_with fail
 refine (HN.out _).mono ?_
 rintro e w1 ⟨rfl,rfl⟩
 go_wp2_with fail
 refine (HGt.out _ HN6.out F0.out.b).mono ?_
 rintro e w2 ⟨rfl,hb⟩
 have F2:=Live.hb F0 hb
 clear hb F0 HN HGt
 by_cases hc : cd = 0
 rotate_left
 ·have hc1 : ((cd : Int) != 0) = true:=by simp; exact hc
  have HE : Hid (X = ((n,0,0),0)):=Lib.hid (by rw [HX.out,if_neg hc])
  clear HX hc
  have r0 : w2.cell? ⟨rb,0,none⟩ = some (.string ⟨#[]⟩):=F2.out.cell 0 0 rfl rfl
  have r1 : w2.cell? ⟨rb,1,none⟩ = some (.int .i64 0):=F2.out.cell 0 1 rfl rfl
  have r2 : w2.cell? ⟨rb,2,none⟩ = some (.int .i64 0):=F2.out.cell 0 2 rfl rfl
  have f0 : w2.frozen? ⟨rb,0,none⟩ = false:=F2.out.frozen 0 0 rfl
  have f1 : w2.frozen? ⟨rb,1,none⟩ = false:=F2.out.frozen 0 1 rfl
  have f2 : w2.frozen? ⟨rb,2,none⟩ = false:=F2.out.frozen 0 2 rfl
  go_wp2_with fail
  have F9 : Hid (Live w (((w2.setCell ⟨rb,0,none⟩ (.string ⟨n.toArray⟩)).setCell ⟨rb,1,none⟩ (.int .i64 0)).setCell ⟨rb,2,none⟩ (.int .i64 0)) [(rb,40,#[.string ⟨n.toArray⟩,.int .i64 0,.int .i64 0])]):=Lib.hid (((F2.out.set 0 0 _ rfl).set 0 1 _ rfl).set 0 2 _ rfl)
  generalize ((w2.setCell ⟨rb,0,none⟩ (.string ⟨n.toArray⟩)).setCell ⟨rb,1,none⟩ (.int .i64 0)).setCell ⟨rb,2,none⟩ (.int .i64 0) = W9 at F9 ⊢
  have s0 : W9.cell? ⟨rb,0,none⟩ = some (.string ⟨n.toArray⟩):=F9.out.cell 0 0 rfl rfl
  have s1 : W9.cell? ⟨rb,1,none⟩ = some (.int .i64 0):=F9.out.cell 0 1 rfl rfl
  have s2 : W9.cell? ⟨rb,2,none⟩ = some (.int .i64 0):=F9.out.cell 0 2 rfl rfl
  (try simp only [Exit.inBlock,Exit.then])
  refine bodyPost_ret (v:=.tuple #[.agg #[.string ⟨n.toArray⟩,.int .i64 0,.int .i64 0],.int .i64 0]) (by simp [results,Tryd.results12,go_sem,s0,s1,s2]) rfl ?_
  exact HP.out n 0 0 0 _ HE.out F9.out.b
 subst hc
 rw [if_pos rfl] at HX
 have HV:=Lib.hid hvl
 clear hvl
 go_wp2_with fail
 refine (code_Read vl _).mono ?_
 rintro e w3 ⟨rfl,rfl⟩
 obtain ⟨R,hR⟩ : ∃ R,w2.heap.size = R:=⟨_,rfl⟩
 have D3 : Hid (Rdr (w2.alloc (.cells #[.string ⟨vl.toArray⟩,.int .i64 0,.int .i64 0] 100)) R (vl,0) ∧ w.heap.size ≤ R ∧ rb ≠ R):=Lib.hid (by
  subst hR
  exact ⟨⟨vl,0,Blk.new _ _ _,Nat.zero_le _,by have:=HV.out; omega,rfl⟩,F2.out.b.size,fun e=>by have:=F2.out.lt 0 rfl; omega⟩)
 have F3 : Hid (Live w (w2.alloc (.cells #[.string ⟨vl.toArray⟩,.int .i64 0,.int .i64 0] 100)) [(rb,40,#[.string ⟨#[]⟩,.int .i64 0,.int .i64 0])]):=Live.hb F2 ((Below.refl _ w2).alloc (Nat.le_refl _) _)
 rw [hR]
 generalize w2.alloc (.cells #[.string ⟨vl.toArray⟩,.int .i64 0,.int .i64 0] 100) = W3 at D3 F3 ⊢
 clear hR F2
 obtain ⟨a,s1,hA⟩ : ∃ a s1,numS (vl,0) = (a,s1):=⟨_,_,rfl⟩
 obtain ⟨q,s2,hQ⟩ : ∃ q s2,numS s1 = (q,s2):=⟨_,_,rfl⟩
 have HX2 : Hid (X = match (if endS s2 = 0 ∧ a ≤ Ex.maxA ∧ q ≤ Ex.maxA then some (a,q) else none) with | some p=>((n,p.1,p.2),0) | none=>(([],0,0),3)):=Lib.hid (by
  rw [HX.out]
  unfold Ex.parseA
  rw [hA]
  simp only
  rw [hQ])
 have HA:=Lib.hid hA
 have HQ:=Lib.hid hQ
 clear hA hQ HX
 go_upto_region 7 with fail
 go_wp2_with fail
 refine (code_RNum _ R _ D3.out.1).mono ?_
 rw [HA.out]
 rintro e w4 ⟨rfl,hd,hg⟩
 have D4 : Hid (Rdr w4 R s1 ∧ w.heap.size ≤ R ∧ rb ≠ R):=Lib.hid ⟨hd,D3.out.2⟩
 have F4:=Lib.hid (F3.out.apart hg (fun k e=>by injection e with e; subst e; exact ⟨D3.out.2.1,by intro x hx; rw [List.mem_singleton] at hx; subst hx; exact D3.out.2.2⟩))
 clear hd hg D3 F3 HA
 go_wp2_with fail
 refine (code_RNum _ R _ D4.out.1).mono ?_
 rw [HQ.out]
 rintro e w5 ⟨rfl,hd,hg⟩
 have D5 : Hid (Rdr w5 R s2 ∧ w.heap.size ≤ R ∧ rb ≠ R):=Lib.hid ⟨hd,D4.out.2⟩
 have F5:=Lib.hid (F4.out.apart hg (fun k e=>by injection e with e; subst e; exact ⟨D4.out.2.1,by intro x hx; rw [List.mem_singleton] at hx; subst hx; exact D4.out.2.2⟩))
 clear hd hg D4 F4 HQ
 go_upto_region 8 with fail
 obtain ⟨ab,hab⟩ : ∃ ab,w5.heap.size = ab:=⟨_,rfl⟩
 have D6 : Hid (Rdr (w5.alloc (.cells #[.string ⟨n.toArray⟩,.int .i64 (a : Int),.int .i64 (q : Int)] 40)) R s2 ∧ w.heap.size ≤ R ∧ rb ≠ R ∧ ab ≠ R):=Lib.hid (by
  subst hab
  exact ⟨D5.out.1.lower ((Below.refl _ w5).alloc (Nat.le_refl _) _) D5.out.1.lt,D5.out.2.1,D5.out.2.2,fun e=>by have:=D5.out.1.lt; omega⟩)
 have F6:=Live.ha F5 #[.string ⟨n.toArray⟩,.int .i64 (a : Int),.int .i64 (q : Int)] 40
 rw [hab] at F6 ⊢
 generalize w5.alloc (.cells #[.string ⟨n.toArray⟩,.int .i64 (a : Int),.int .i64 (q : Int)] 40) = W6 at D6 F6 ⊢
 clear hab D5 F5
 go_wp2_with fail
 refine (code_REnd _ R _ D6.out.1).mono ?_
 rintro e w7 ⟨rfl,hd,hg⟩
 have F7:=Lib.hid (F6.out.apart hg (fun k e=>by injection e with e; subst e; exact ⟨D6.out.2.1,by intro x hx; simp only [List.mem_cons,List.not_mem_nil,or_false] at hx; rcases hx with rfl | rfl; exact D6.out.2.2.2; exact D6.out.2.2.1⟩))
 have F8:=Lib.hid (F7.out.drop 1)
 simp only [List.drop_succ_cons,List.drop_zero] at F8
 clear hd hg D6 F6
 have k0_0 : w7.cell? ⟨ab,0,none⟩ = some (.string ⟨n.toArray⟩):=F7.out.cell 0 0 rfl rfl; have k0_1 : w7.cell? ⟨ab,1,none⟩ = some (.int .i64 (a : Int)):=F7.out.cell 0 1 rfl rfl; have k0_2 : w7.cell? ⟨ab,2,none⟩ = some (.int .i64 (q : Int)):=F7.out.cell 0 2 rfl rfl
 generalize endS s2 = ec at *
 by_cases he : ec = 0
 rotate_left
 ·have hc1 : ((ec : Int) != 0) = true:=by simp; exact he
  have HE : Hid (X = (([],0,0),3)):=Lib.hid (by rw [HX2.out,if_neg (fun e=>he e.1)])
  clear HX2 he
  have r0 : w7.cell? ⟨rb,0,none⟩ = some (.string ⟨#[]⟩):=F8.out.cell 0 0 rfl rfl
  have r1 : w7.cell? ⟨rb,1,none⟩ = some (.int .i64 0):=F8.out.cell 0 1 rfl rfl
  have r2 : w7.cell? ⟨rb,2,none⟩ = some (.int .i64 0):=F8.out.cell 0 2 rfl rfl
  have f0 : w7.frozen? ⟨rb,0,none⟩ = false:=F8.out.frozen 0 0 rfl
  have f1 : w7.frozen? ⟨rb,1,none⟩ = false:=F8.out.frozen 0 1 rfl
  have f2 : w7.frozen? ⟨rb,2,none⟩ = false:=F8.out.frozen 0 2 rfl
  go_wp2_with fail
  have F9 : Hid (Live w (((w7.setCell ⟨rb,0,none⟩ (.string ⟨#[]⟩)).setCell ⟨rb,1,none⟩ (.int .i64 0)).setCell ⟨rb,2,none⟩ (.int .i64 0)) [(rb,40,#[.string ⟨#[]⟩,.int .i64 0,.int .i64 0])]):=Lib.hid (((F8.out.set 0 0 _ rfl).set 0 1 _ rfl).set 0 2 _ rfl)
  generalize ((w7.setCell ⟨rb,0,none⟩ (.string ⟨#[]⟩)).setCell ⟨rb,1,none⟩ (.int .i64 0)).setCell ⟨rb,2,none⟩ (.int .i64 0) = W9 at F9 ⊢
  have s0 : W9.cell? ⟨rb,0,none⟩ = some (.string ⟨#[]⟩):=F9.out.cell 0 0 rfl rfl
  have s1 : W9.cell? ⟨rb,1,none⟩ = some (.int .i64 0):=F9.out.cell 0 1 rfl rfl
  have s2 : W9.cell? ⟨rb,2,none⟩ = some (.int .i64 0):=F9.out.cell 0 2 rfl rfl
  (try simp only [Exit.inBlock,Exit.then])
  refine bodyPost_ret (v:=.tuple #[.agg #[.string ⟨#[]⟩,.int .i64 0,.int .i64 0],.int .i64 3]) (by simp [results,Tryd.results12,go_sem,s0,s1,s2]) rfl ?_
  exact HP.out [] 0 0 3 _ HE.out F9.out.b
 subst he
 have WA:=Lib.hid (exec_within (a : Int) w7)
 have WQ:=Lib.hid (exec_within (q : Int) w7)
 rw [decide_eq_true (show (0 : Int) ≤ (a : Int) by omega),Bool.true_and] at WA
 rw [decide_eq_true (show (0 : Int) ≤ (q : Int) by omega),Bool.true_and] at WQ
 by_cases ha : a ≤ Ex.maxA
 rotate_left
 ·have HE : Hid (X = (([],0,0),3)):=Lib.hid (by rw [HX2.out,if_neg (fun e=>ha e.2.1)])
  rw [decide_eq_false (show ¬ (a : Int) ≤ 1099511627776 by unfold Ex.maxA at ha; omega)] at WA
  clear HX2 ha
  go_wp2_with fail
  refine WA.out.mono ?_
  rintro e w8 ⟨rfl,rfl⟩
  have r0 : w7.cell? ⟨rb,0,none⟩ = some (.string ⟨#[]⟩):=F8.out.cell 0 0 rfl rfl
  have r1 : w7.cell? ⟨rb,1,none⟩ = some (.int .i64 0):=F8.out.cell 0 1 rfl rfl
  have r2 : w7.cell? ⟨rb,2,none⟩ = some (.int .i64 0):=F8.out.cell 0 2 rfl rfl
  have f0 : w7.frozen? ⟨rb,0,none⟩ = false:=F8.out.frozen 0 0 rfl
  have f1 : w7.frozen? ⟨rb,1,none⟩ = false:=F8.out.frozen 0 1 rfl
  have f2 : w7.frozen? ⟨rb,2,none⟩ = false:=F8.out.frozen 0 2 rfl
  go_wp2_with fail
  have F9 : Hid (Live w (((w7.setCell ⟨rb,0,none⟩ (.string ⟨#[]⟩)).setCell ⟨rb,1,none⟩ (.int .i64 0)).setCell ⟨rb,2,none⟩ (.int .i64 0)) [(rb,40,#[.string ⟨#[]⟩,.int .i64 0,.int .i64 0])]):=Lib.hid (((F8.out.set 0 0 _ rfl).set 0 1 _ rfl).set 0 2 _ rfl)
  generalize ((w7.setCell ⟨rb,0,none⟩ (.string ⟨#[]⟩)).setCell ⟨rb,1,none⟩ (.int .i64 0)).setCell ⟨rb,2,none⟩ (.int .i64 0) = W9 at F9 ⊢
  have s0 : W9.cell? ⟨rb,0,none⟩ = some (.string ⟨#[]⟩):=F9.out.cell 0 0 rfl rfl
  have s1 : W9.cell? ⟨rb,1,none⟩ = some (.int .i64 0):=F9.out.cell 0 1 rfl rfl
  have s2 : W9.cell? ⟨rb,2,none⟩ = some (.int .i64 0):=F9.out.cell 0 2 rfl rfl
  (try simp only [Exit.inBlock,Exit.then])
  refine bodyPost_ret (v:=.tuple #[.agg #[.string ⟨#[]⟩,.int .i64 0,.int .i64 0],.int .i64 3]) (by simp [results,Tryd.results12,go_sem,s0,s1,s2]) rfl ?_
  exact HP.out [] 0 0 3 _ HE.out F9.out.b
 rw [decide_eq_true (show (a : Int) ≤ 1099511627776 by unfold Ex.maxA at ha; omega)] at WA
 by_cases hq : q ≤ Ex.maxA
 rotate_left
 ·have HE : Hid (X = (([],0,0),3)):=Lib.hid (by rw [HX2.out,if_neg (fun e=>hq e.2.2)])
  rw [decide_eq_false (show ¬ (q : Int) ≤ 1099511627776 by unfold Ex.maxA at hq; omega)] at WQ
  clear HX2 ha hq
  go_wp2_with fail
  refine WA.out.mono ?_
  rintro e w8 ⟨rfl,rfl⟩
  go_wp2_with fail
  refine WQ.out.mono ?_
  rintro e w8 ⟨rfl,rfl⟩
  have r0 : w7.cell? ⟨rb,0,none⟩ = some (.string ⟨#[]⟩):=F8.out.cell 0 0 rfl rfl
  have r1 : w7.cell? ⟨rb,1,none⟩ = some (.int .i64 0):=F8.out.cell 0 1 rfl rfl
  have r2 : w7.cell? ⟨rb,2,none⟩ = some (.int .i64 0):=F8.out.cell 0 2 rfl rfl
  have f0 : w7.frozen? ⟨rb,0,none⟩ = false:=F8.out.frozen 0 0 rfl
  have f1 : w7.frozen? ⟨rb,1,none⟩ = false:=F8.out.frozen 0 1 rfl
  have f2 : w7.frozen? ⟨rb,2,none⟩ = false:=F8.out.frozen 0 2 rfl
  go_wp2_with fail
  have F9 : Hid (Live w (((w7.setCell ⟨rb,0,none⟩ (.string ⟨#[]⟩)).setCell ⟨rb,1,none⟩ (.int .i64 0)).setCell ⟨rb,2,none⟩ (.int .i64 0)) [(rb,40,#[.string ⟨#[]⟩,.int .i64 0,.int .i64 0])]):=Lib.hid (((F8.out.set 0 0 _ rfl).set 0 1 _ rfl).set 0 2 _ rfl)
  generalize ((w7.setCell ⟨rb,0,none⟩ (.string ⟨#[]⟩)).setCell ⟨rb,1,none⟩ (.int .i64 0)).setCell ⟨rb,2,none⟩ (.int .i64 0) = W9 at F9 ⊢
  have s0 : W9.cell? ⟨rb,0,none⟩ = some (.string ⟨#[]⟩):=F9.out.cell 0 0 rfl rfl
  have s1 : W9.cell? ⟨rb,1,none⟩ = some (.int .i64 0):=F9.out.cell 0 1 rfl rfl
  have s2 : W9.cell? ⟨rb,2,none⟩ = some (.int .i64 0):=F9.out.cell 0 2 rfl rfl
  (try simp only [Exit.inBlock,Exit.then])
  refine bodyPost_ret (v:=.tuple #[.agg #[.string ⟨#[]⟩,.int .i64 0,.int .i64 0],.int .i64 3]) (by simp [results,Tryd.results12,go_sem,s0,s1,s2]) rfl ?_
  exact HP.out [] 0 0 3 _ HE.out F9.out.b
 have HE : Hid (X = ((n,a,q),0)):=Lib.hid (by rw [HX2.out,if_pos ⟨rfl,ha,hq⟩])
 rw [decide_eq_true (show (q : Int) ≤ 1099511627776 by unfold Ex.maxA at hq; omega)] at WQ
 clear HX2 ha hq
 go_wp2_with fail
 refine WA.out.mono ?_
 rintro e w8 ⟨rfl,rfl⟩
 go_wp2_with fail
 refine WQ.out.mono ?_
 rintro e w8 ⟨rfl,rfl⟩
 have r0 : w7.cell? ⟨rb,0,none⟩ = some (.string ⟨#[]⟩):=F8.out.cell 0 0 rfl rfl
 have r1 : w7.cell? ⟨rb,1,none⟩ = some (.int .i64 0):=F8.out.cell 0 1 rfl rfl
 have r2 : w7.cell? ⟨rb,2,none⟩ = some (.int .i64 0):=F8.out.cell 0 2 rfl rfl
 have f0 : w7.frozen? ⟨rb,0,none⟩ = false:=F8.out.frozen 0 0 rfl
 have f1 : w7.frozen? ⟨rb,1,none⟩ = false:=F8.out.frozen 0 1 rfl
 have f2 : w7.frozen? ⟨rb,2,none⟩ = false:=F8.out.frozen 0 2 rfl
 go_wp2_with fail
 have F9 : Hid (Live w (((w7.setCell ⟨rb,0,none⟩ (.string ⟨n.toArray⟩)).setCell ⟨rb,1,none⟩ (.int .i64 (a : Int))).setCell ⟨rb,2,none⟩ (.int .i64 (q : Int))) [(rb,40,#[.string ⟨n.toArray⟩,.int .i64 (a : Int),.int .i64 (q : Int)])]):=Lib.hid (((F8.out.set 0 0 _ rfl).set 0 1 _ rfl).set 0 2 _ rfl)
 generalize ((w7.setCell ⟨rb,0,none⟩ (.string ⟨n.toArray⟩)).setCell ⟨rb,1,none⟩ (.int .i64 (a : Int))).setCell ⟨rb,2,none⟩ (.int .i64 (q : Int)) = W9 at F9 ⊢
 have s0 : W9.cell? ⟨rb,0,none⟩ = some (.string ⟨n.toArray⟩):=F9.out.cell 0 0 rfl rfl
 have s1 : W9.cell? ⟨rb,1,none⟩ = some (.int .i64 (a : Int)):=F9.out.cell 0 1 rfl rfl
 have s2 : W9.cell? ⟨rb,2,none⟩ = some (.int .i64 (q : Int)):=F9.out.cell 0 2 rfl rfl
 (try simp only [Exit.inBlock,Exit.then])
 refine bodyPost_ret (v:=.tuple #[.agg #[.string ⟨n.toArray⟩,.int .i64 (a : Int),.int .i64 (q : Int)],.int .i64 0]) (by simp [results,Tryd.results12,go_sem,s0,s1,s2]) rfl ?_
 exact HP.out n a q 0 _ HE.out F9.out.b
def dataW (t : Trie.T) (k : List UInt8) : List UInt8 × Nat:=if 1 ≤ k.length ∧ k.length ≤ 6 then Trie.getW t (Ex.dKey k) else ([],1)
set_option maxRecDepth 100000 in
theorem exec_Data (w : World) (t : Trie.T) (v : Value) (h : TrieP w t v) (k : List UInt8) (hl : k.length ≤ 9223372036854775807) :
  Calls Tryd.prog 13 #[v,.string ⟨k.toArray⟩] w (TGetEnd w (dataW t k)):=by
 have HP : Hid (∀ r w',dataW t k = r → Below w.heap.size w w' → TGetEnd w (dataW t k) (.returned (.tuple #[.string ⟨r.1.toArray⟩,.int .i64 (r.2 : Int)])) w'):=Lib.hid (fun b w' h1 h2=>⟨by rw [h1],h2⟩)
 have HX : Hid (dataW t k = if 1 ≤ k.length ∧ k.length ≤ 6 then Trie.getW t (100 :: 58 :: k) else ([],1)):=Lib.hid rfl
 generalize TGetEnd w (dataW t k) = P at HP ⊢
 generalize dataW t k = X at *
 have HGt:=Lib.hid (fun (h6 : k.length ≤ 6)=>trie_Get w t v h (100 :: 58 :: k) (by simp only [List.length_cons]; omega))
 generalize Trie.getW t (100 :: 58 :: k) = r at *
 obtain ⟨vl,cd⟩:=r
 unfold TGetEnd at HGt
 simp only at HGt
 clear h
 by_cases h0 : k = []
 ·subst h0
  have HE : Hid (X = ([],1)):=Lib.hid HX.out
  clear HX HGt
  go_enter Tryd.func13,Tryd.ntmps13
  go_wp2
  exact HP.out _ _ HE.out (Below.refl _ _)
 have ne1 : (k.toArray = #[]) = False:=by simp [h0]
 have ne2 : k.isEmpty = false:=by cases k <;> simp_all
 by_cases h6 : k.length ≤ 6
 ·have h6' : ((6 : Int) < k.length) = False:=by simp; omega
  have HE : Hid (X = (vl,cd)):=Lib.hid (by rw [HX.out,if_pos ⟨List.length_pos_iff.2 h0,h6⟩])
  have HGt:=Lib.hid (HGt.out h6)
  have hsum : 2 + k.length ≤ 9223372036854775807:=by omega
  have hsum2 : k.length + 2 ≤ 9223372036854775807:=by omega
  have hsum3 : k.length + 1 + 1 ≤ 9223372036854775807:=by omega
  clear HX h0 h6 hl
  go_enter Tryd.func13,Tryd.ntmps13
  go_wp2_with fail
  refine HGt.out.mono ?_
  rintro e w1 ⟨rfl,hb⟩
  have HB:=Lib.hid hb
  clear hb
  go_wp2_with fail
  exact HP.out _ _ HE.out HB.out
 ·have h6' : (6 : Int) < k.length:=by omega
  have HE : Hid (X = ([],1)):=Lib.hid (by rw [HX.out,if_neg (fun e=>h6 e.2)])
  clear HX HGt h0 h6
  go_enter Tryd.func13,Tryd.ntmps13
  go_wp2
  exact HP.out _ _ HE.out (Below.refl _ _)
end Go.Proofs.YtomnlhbioijfhaaDoor
