import Derived.Test.YtnelhjfjkkdoaaaGreatDoorJ13
set_option linter.unusedSimpArgs false
set_option linter.unusedVariables false
namespace Go.Proofs.YtnelhjfjkkdoaaaGreatDoor
open Go.RowKit Go.Instr
attribute [local go_sem] ba_get ByteArray.mk_append_mk
attribute [local go_sem ↓] Go.wp_at_zero Go.wp_at_succ
namespace Trie
def keyedW (key : List UInt8) : Bool := !key.isEmpty && decide (key.length ≤ 8)
structure Good (t : T) : Prop where
 wf : wf t
 small : small t
 even : ∀ q,Nib.fit q = true → look t q ≠ [] → q.length % 2 = 0 ∧ q ≠ []
theorem Good.nil : Good .nil:=⟨trivial,small_nil,fun q _ h=>absurd rfl h⟩
def putCode (key value : List UInt8) : Nat:=if keyedW key then (if value.isEmpty || decide (32 < value.length) then 2 else 0) else 1
end Trie
def TrieP (w : World) (t : Trie.T) (v : Value) : Prop:=Trie.Good t ∧ ∃ b x,v = .pointer (some ⟨b,0,none⟩) ∧ Blk w b 115 #[x] ∧ KnotP w t x
theorem TrieP.next {w w1 : World} {t : Trie.T} {v : Value} (h : TrieP w t v) (hb : Below w.heap.size w w1) : TrieP w1 t v:=by
 obtain ⟨h1,b,x,h2,h3,h4⟩:=h
 exact ⟨h1,b,x,h2,h3.below hb h3.lt,h4.next hb⟩
theorem trie_keyed (key : List UInt8) (hl : key.length ≤ 9223372036854775807) (w : World) :
  Calls Tryz.prog 53 #[.string ⟨key.toArray⟩] w fun e w'=>e = .returned (.bool (Trie.keyedW key)) ∧ w = w':=by
 have HP : Hid (∀ b w',Trie.keyedW key = b → w = w' → (fun e w'=>e = Ending.returned (.bool (Trie.keyedW key)) ∧ w = w') (Ending.returned (.bool b)) w'):=Lib.hid (fun b w' h1 h2=>⟨by rw [h1],h2⟩)
 generalize (fun e w'=>e = Ending.returned (.bool (Trie.keyedW key)) ∧ w = w') = P at HP ⊢
 by_cases h0 : key = []
 ·subst h0
  go_enter Tryz.func53,Tryz.ntmps53
  go_wp2
  exact HP.out _ _ rfl rfl
 ·have ne1 : (key.toArray = #[]) = False:=by simp [h0]
  have ne2 : key.isEmpty = false:=by cases key <;> simp_all
  by_cases h8 : key.length ≤ 8
  ·have h8' : (key.length : Int) ≤ 8:=by omega
   go_enter Tryz.func53,Tryz.ntmps53
   go_wp2
   exact HP.out _ _ (by simp [Trie.keyedW,ne2,h8]) rfl
  ·have h8' : ((key.length : Int) ≤ 8) = False:=by simp; omega
   go_enter Tryz.func53,Tryz.ntmps53
   go_wp2
   exact HP.out _ _ (by simp [Trie.keyedW,ne2,h8]) rfl
def NewEnd (w : World) (t : Trie.T) (e : Ending) (w' : World) : Prop := ∃ v,e = .returned v ∧ TrieP w' t v ∧ Below w.heap.size w w'
theorem trie_New (w : World) : Calls Tryz.prog 11 #[] w (NewEnd w .nil):=by
 have HP : Hid (∀ b w',Blk w' b 115 #[.pointer none] → Below w.heap.size w w' → NewEnd w .nil (.returned (.pointer (some ⟨b,0,none⟩))) w'):=Lib.hid (fun b w' h1 h2=>⟨_,rfl,⟨Trie.Good.nil,b,_,rfl,h1,.nil⟩,h2⟩)
 generalize NewEnd w .nil = P at HP ⊢
 go_enter Tryz.func11,Tryz.ntmps11
 go_wp2
 exact HP.out _ _ (Blk.new _ _ _) (by go_grown)
theorem trie_Len (w : World) (t : Trie.T) (v : Value) (h : TrieP w t v) : Calls Tryz.prog 55 #[v] w fun e w'=>e = .returned (.int .i64 (Trie.count t : Int)) ∧ w = w':=by
 obtain ⟨hg,b,x,rfl,hbk,hk⟩:=h
 have HP : Hid (∀ n w',(Trie.count t : Int) = n → w = w' → (fun e w'=>e = Ending.returned (.int .i64 (Trie.count t : Int)) ∧ w = w') (Ending.returned (.int .i64 n)) w'):=Lib.hid (fun b w' h1 h2=>⟨by rw [h1],h2⟩)
 have c0 : w.cell? ⟨b,0,none⟩ = some x:=hbk.cell 0
 generalize (fun e w'=>e = Ending.returned (.int .i64 (Trie.count t : Int)) ∧ w = w') = P at HP ⊢
 rcases hk.form with ⟨rfl,rfl⟩ | ⟨b2,ps,hn,rfl,hps,hbk2,_⟩
 ·clear hbk hk hg
  go_enter Tryz.func55,Tryz.ntmps55
  go_wp2
  exact HP.out _ _ rfl rfl
 ·have c37:=(KnotAt.of (Trie.sumsT_length _) hps hbk2).c37
  clear hbk hk hg hbk2
  go_enter Tryz.func55,Tryz.ntmps55
  go_wp2
  exact HP.out _ _ rfl rfl
theorem trie_Root (w : World) (t : Trie.T) (v : Value) (h : TrieP w t v) : Calls Tryz.prog 20 #[v] w fun e w'=>e = .returned (.string ⟨(Trie.sumT t).toArray⟩) ∧ w = w':=by
 obtain ⟨hg,b,x,rfl,hbk,hk⟩:=h
 have HP : Hid (∀ n w',Trie.sumT t = n → w = w' → (fun e w'=>e = Ending.returned (.string ⟨(Trie.sumT t).toArray⟩) ∧ w = w') (Ending.returned (.string ⟨n.toArray⟩)) w'):=Lib.hid (fun b w' h1 h2=>⟨by rw [h1],h2⟩)
 have c0 : w.cell? ⟨b,0,none⟩ = some x:=hbk.cell 0
 generalize (fun e w'=>e = Ending.returned (.string ⟨(Trie.sumT t).toArray⟩) ∧ w = w') = P at HP ⊢
 rcases hk.form with ⟨rfl,rfl⟩ | ⟨b2,ps,hn,rfl,hps,hbk2,_⟩
 ·clear hbk hk hg
  go_enter Tryz.func20,Tryz.ntmps20
  go_wp2
  exact HP.out _ _ rfl rfl
 ·have c36:=(KnotAt.of (Trie.sumsT_length _) hps hbk2).c36
  clear hbk hk hg hbk2
  go_enter Tryz.func20,Tryz.ntmps20
  go_wp2
  exact HP.out _ _ rfl rfl
namespace Trie
def getW (t : T) (key : List UInt8) : List UInt8 × Nat :=
 if keyedW key then (if (look t (Nib.of key)).isEmpty then ([],5) else (look t (Nib.of key),0)) else ([],1)
theorem keyed_len {key : List UInt8} (h : keyedW key = true) : key.length ≤ 8 ∧ key ≠ []:=by
 simp [keyedW] at h
 exact ⟨h.2,h.1⟩
end Trie
def TGetEnd (w : World) (r : List UInt8 × Nat) (e : Ending) (w' : World) : Prop:=e = .returned (.tuple #[.string ⟨r.1.toArray⟩,.int .i64 (r.2 : Int)]) ∧ Below w.heap.size w w'
set_option maxHeartbeats 1000000 in
theorem trie_Get (w : World) (t : Trie.T) (v : Value) (h : TrieP w t v) (key : List UInt8) (hl : key.length ≤ 9223372036854775807) :
  Calls Tryz.prog 21 #[v,.string ⟨key.toArray⟩] w (TGetEnd w (Trie.getW t key)):=by
 obtain ⟨hg,b,x,rfl,hbk,hk⟩:=h
 have HP : Hid (∀ r w',Trie.getW t key = r → Below w.heap.size w w' → TGetEnd w (Trie.getW t key) (.returned (.tuple #[.string ⟨r.1.toArray⟩,.int .i64 (r.2 : Int)])) w'):=Lib.hid (fun b w' h1 h2=>⟨by rw [h1],h2⟩)
 have c0 : w.cell? ⟨b,0,none⟩ = some x:=hbk.cell 0
 have HLt:=Lib.hid hbk.lt
 generalize TGetEnd w (Trie.getW t key) = P at HP ⊢
 cases hkey : Trie.keyedW key with
 | false =>
  have HKy : Hid (∀ W,Calls Tryz.prog 53 #[.string ⟨key.toArray⟩] W fun e w'=>e = .returned (.bool false) ∧ W = w'):=Lib.hid (fun W=>by have:=trie_keyed key hl W; rwa [hkey] at this)
  have HR : Hid (Trie.getW t key = ([],1)):=Lib.hid (by simp [Trie.getW,hkey])
  clear hbk hk hg hkey
  go_enter Tryz.func21,Tryz.ntmps21
  go_wp2_with (go_at_call 53; refine (HKy.out _).mono ?_; rintro e w1 ⟨rfl,rfl⟩)
  exact HP.out _ _ HR.out (Below.refl _ _)
 | true =>
  have HKy : Hid (∀ W,Calls Tryz.prog 53 #[.string ⟨key.toArray⟩] W fun e w'=>e = .returned (.bool true) ∧ W = w'):=Lib.hid (fun W=>by have:=trie_keyed key hl W; rwa [hkey] at this)
  have hk8:=(Trie.keyed_len hkey).1
  have HOf : Hid (∀ W,Calls Tryz.prog 54 #[.string ⟨key.toArray⟩] W fun e w'=>e = .returned (.string ⟨(Nib.of key).toArray⟩) ∧ Below W.heap.size W w'):=Lib.hid (fun W=>nib_Of key W (by omega))
  obtain ⟨hx⟩ : Nonempty (x = .pointer none ∨ ∃ b2,x = .pointer (some ⟨b2,0,none⟩)):=⟨by rcases hk.form with ⟨_,h⟩ | ⟨b2,_,_,h,_⟩; exact .inl h; exact .inr ⟨b2,h⟩⟩
  rcases hx with rfl | ⟨b2,rfl⟩
  ·have HGt : Hid (∀ W,Below w.heap.size w W → Calls Tryz.prog 56 #[(.pointer none),.string ⟨(Nib.of key).toArray⟩] W (GetEnd W (Trie.look t (Nib.of key)))):=Lib.hid (fun W hW=>trie_get t (Nib.of key) _ W hg.wf hg.small (Nib.fit_of key) (by rw [Nib.of_length]; omega) (hk.next hW))
   clear hk hg hbk
   by_cases h0 : Trie.look t (Nib.of key) = []
   ·have HR : Hid (Trie.getW t key = ([],5)):=Lib.hid (by simp [Trie.getW,hkey,h0])
    rw [h0] at HGt
    clear h0
    go_enter Tryz.func21,Tryz.ntmps21
    go_upto_region 3 with (go_at_call 53; refine (HKy.out _).mono ?_; rintro e w1 ⟨rfl,rfl⟩)
    go_region_held3 (fun w'=>w'.cell? ⟨b,0,none⟩ = some (.pointer none)) (first | go_keep | assumption) (first | (go_at_call 54; refine (HOf.out _).mono ?_; rintro e w2 ⟨rfl,hb⟩; have hb2 : Below w.heap.size w w2:=(by first | exact hb | exact hb.start); clear hb; have d1:=(hb2.cell (p:=⟨b,0,none⟩) HLt.out).trans c0) | (go_at_call 56; refine (HGt.out _ (by first | exact hb2 | exact hb2.drew)).mono ?_; rintro e w3 ⟨rfl,hb⟩; have hb3 : Below w2.heap.size w2 w3:=(by first | exact hb | exact hb.start); clear hb; have d2:=(hb3.cell (p:=⟨b,0,none⟩) (Nat.lt_of_lt_of_le HLt.out hb2.size)).trans d1))
    go_wp2
    exact HP.out _ _ HR.out (hb2.nxt hb3)
   ·have HR : Hid (Trie.getW t key = (Trie.look t (Nib.of key),0)):=Lib.hid (by simp [Trie.getW,hkey,h0])
    have ne1 : ((Trie.look t (Nib.of key)).toArray = #[]) = False:=by simp [h0]
    have ne2 : (Trie.look t (Nib.of key)).isEmpty = false:=by simp [h0]
    generalize Trie.look t (Nib.of key) = val at *
    clear h0
    go_enter Tryz.func21,Tryz.ntmps21
    go_upto_region 3 with (go_at_call 53; refine (HKy.out _).mono ?_; rintro e w1 ⟨rfl,rfl⟩)
    go_region_held3 (fun w'=>w'.cell? ⟨b,0,none⟩ = some (.pointer none)) (first | go_keep | assumption) (first | (go_at_call 54; refine (HOf.out _).mono ?_; rintro e w2 ⟨rfl,hb⟩; have hb2 : Below w.heap.size w w2:=(by first | exact hb | exact hb.start); clear hb; have d1:=(hb2.cell (p:=⟨b,0,none⟩) HLt.out).trans c0) | (go_at_call 56; refine (HGt.out _ (by first | exact hb2 | exact hb2.drew)).mono ?_; rintro e w3 ⟨rfl,hb⟩; have hb3 : Below w2.heap.size w2 w3:=(by first | exact hb | exact hb.start); clear hb; have d2:=(hb3.cell (p:=⟨b,0,none⟩) (Nat.lt_of_lt_of_le HLt.out hb2.size)).trans d1))
    go_wp2
    exact HP.out _ _ HR.out (hb2.nxt hb3)
  ·have HGt : Hid (∀ W,Below w.heap.size w W → Calls Tryz.prog 56 #[(.pointer (some ⟨b2,0,none⟩)),.string ⟨(Nib.of key).toArray⟩] W (GetEnd W (Trie.look t (Nib.of key)))):=Lib.hid (fun W hW=>trie_get t (Nib.of key) _ W hg.wf hg.small (Nib.fit_of key) (by rw [Nib.of_length]; omega) (hk.next hW))
   clear hk hg hbk
   by_cases h0 : Trie.look t (Nib.of key) = []
   ·have HR : Hid (Trie.getW t key = ([],5)):=Lib.hid (by simp [Trie.getW,hkey,h0])
    rw [h0] at HGt
    clear h0
    go_enter Tryz.func21,Tryz.ntmps21
    go_upto_region 3 with (go_at_call 53; refine (HKy.out _).mono ?_; rintro e w1 ⟨rfl,rfl⟩)
    go_region_held3 (fun w'=>w'.cell? ⟨b,0,none⟩ = some (.pointer (some ⟨b2,0,none⟩))) (first | go_keep | assumption) (first | (go_at_call 54; refine (HOf.out _).mono ?_; rintro e w2 ⟨rfl,hb⟩; have hb2 : Below w.heap.size w w2:=(by first | exact hb | exact hb.start); clear hb; have d1:=(hb2.cell (p:=⟨b,0,none⟩) HLt.out).trans c0) | (go_at_call 56; refine (HGt.out _ (by first | exact hb2 | exact hb2.drew)).mono ?_; rintro e w3 ⟨rfl,hb⟩; have hb3 : Below w2.heap.size w2 w3:=(by first | exact hb | exact hb.start); clear hb; have d2:=(hb3.cell (p:=⟨b,0,none⟩) (Nat.lt_of_lt_of_le HLt.out hb2.size)).trans d1))
    go_wp2
    exact HP.out _ _ HR.out (hb2.nxt hb3)
   ·have HR : Hid (Trie.getW t key = (Trie.look t (Nib.of key),0)):=Lib.hid (by simp [Trie.getW,hkey,h0])
    have ne1 : ((Trie.look t (Nib.of key)).toArray = #[]) = False:=by simp [h0]
    have ne2 : (Trie.look t (Nib.of key)).isEmpty = false:=by simp [h0]
    generalize Trie.look t (Nib.of key) = val at *
    clear h0
    go_enter Tryz.func21,Tryz.ntmps21
    go_upto_region 3 with (go_at_call 53; refine (HKy.out _).mono ?_; rintro e w1 ⟨rfl,rfl⟩)
    go_region_held3 (fun w'=>w'.cell? ⟨b,0,none⟩ = some (.pointer (some ⟨b2,0,none⟩))) (first | go_keep | assumption) (first | (go_at_call 54; refine (HOf.out _).mono ?_; rintro e w2 ⟨rfl,hb⟩; have hb2 : Below w.heap.size w w2:=(by first | exact hb | exact hb.start); clear hb; have d1:=(hb2.cell (p:=⟨b,0,none⟩) HLt.out).trans c0) | (go_at_call 56; refine (HGt.out _ (by first | exact hb2 | exact hb2.drew)).mono ?_; rintro e w3 ⟨rfl,hb⟩; have hb3 : Below w2.heap.size w2 w3:=(by first | exact hb | exact hb.start); clear hb; have d2:=(hb3.cell (p:=⟨b,0,none⟩) (Nat.lt_of_lt_of_le HLt.out hb2.size)).trans d1))
    go_wp2
    exact HP.out _ _ HR.out (hb2.nxt hb3)
namespace Trie
theorem Good.put {t : T} (h : Good t) {key value : List UInt8} (hk : keyedW key = true) (hv : value ≠ []) (hl : value.length ≤ 32) : Good (put t (Nib.of key) value):=by
 obtain ⟨k8,k0⟩:=keyed_len hk
 have hof:=Nib.of_length key
 obtain ⟨h1,h2⟩:=small_put h.wf h.small (Nib.fit_of key) (by omega) hv hl
 refine ⟨h1,h2,fun q hq hne => ?_⟩
 rw [(put_spec t _ value h.wf (Nib.fit_of key) hv).2.1 q hq] at hne
 split at hne
 ·rename_i e; subst e
  refine ⟨by omega,fun e => ?_⟩
  have:=congrArg List.length e
  rw [hof] at this
  simp at this
  exact k0 (List.eq_nil_of_length_eq_zero (by omega))
 ·exact h.even q hq hne
end Trie
def TPutEnd (w : World) (t : Trie.T) (code : Nat) (e : Ending) (w' : World) : Prop :=
 ∃ v',e = .returned (.tuple #[v',.int .i64 (code : Int)]) ∧ Below w.heap.size w w' ∧ (code = 0 → TrieP w' t v') ∧ (code ≠ 0 → v' = .pointer none)
set_option maxHeartbeats 1000000 in
theorem trie_Put (w : World) (t : Trie.T) (v : Value) (h : TrieP w t v) (hc : Trie.count t < 1024) (hT : Tbl w) (key value : List UInt8) (hl : key.length ≤ 9223372036854775807) (hvl : value.length ≤ 9223372036854775807) :
  Calls Tryz.prog 13 #[v,.string ⟨key.toArray⟩,.string ⟨value.toArray⟩] w (TPutEnd w (Trie.put t (Nib.of key) value) (Trie.putCode key value)):=by
 obtain ⟨hg,b,x,rfl,hbk,hk⟩:=h
 have HP : Hid (∀ c v' w',Trie.putCode key value = c → Below w.heap.size w w' → (c = 0 → TrieP w' (Trie.put t (Nib.of key) value) v') → (c ≠ 0 → v' = .pointer none) → TPutEnd w (Trie.put t (Nib.of key) value) (Trie.putCode key value) (.returned (.tuple #[v',.int .i64 (c : Int)])) w'):=Lib.hid (fun c v' w' h1 h2 h3 h4=>⟨v',by rw [h1],h2,by rw [h1]; exact h3,by rw [h1]; exact h4⟩)
 have c0 : w.cell? ⟨b,0,none⟩ = some x:=hbk.cell 0
 have HLt:=Lib.hid hbk.lt
 generalize TPutEnd w (Trie.put t (Nib.of key) value) (Trie.putCode key value) = P at HP ⊢
 cases hkey : Trie.keyedW key with
 | false =>
  have HKy : Hid (∀ W,Calls Tryz.prog 53 #[.string ⟨key.toArray⟩] W fun e w'=>e = .returned (.bool false) ∧ W = w'):=Lib.hid (fun W=>by have:=trie_keyed key hl W; rwa [hkey] at this)
  have HR : Hid (Trie.putCode key value = 1):=Lib.hid (by simp [Trie.putCode,hkey])
  clear hbk hk hg hkey hT
  go_enter Tryz.func13,Tryz.ntmps13
  go_wp2_with (go_at_call 53; refine (HKy.out _).mono ?_; rintro e w1 ⟨rfl,rfl⟩)
  exact HP.out 1 _ _ HR.out (Below.refl _ _) (fun h=>by simp at h) (fun _=>rfl)
 | true =>
 have HKy : Hid (∀ W,Calls Tryz.prog 53 #[.string ⟨key.toArray⟩] W fun e w'=>e = .returned (.bool true) ∧ W = w'):=Lib.hid (fun W=>by have:=trie_keyed key hl W; rwa [hkey] at this)
 have hk8:=(Trie.keyed_len hkey).1
 have HOf : Hid (∀ W,Calls Tryz.prog 54 #[.string ⟨key.toArray⟩] W fun e w'=>e = .returned (.string ⟨(Nib.of key).toArray⟩) ∧ Below W.heap.size W w'):=Lib.hid (fun W=>nib_Of key W (by omega))
 by_cases hv0 : value = []
 ·subst hv0
  have HR : Hid (Trie.putCode key [] = 2):=Lib.hid (by simp [Trie.putCode,hkey])
  clear hbk hk hg hkey hT
  go_enter Tryz.func13,Tryz.ntmps13
  go_wp2_with (go_at_call 53; refine (HKy.out _).mono ?_; rintro e w1 ⟨rfl,rfl⟩)
  exact HP.out 2 _ _ HR.out (Below.refl _ _) (fun h=>by simp at h) (fun _=>rfl)
 have ne1 : (value.toArray = #[]) = False:=by simp [hv0]
 have ne2 : value.isEmpty = false:=by simp [hv0]
 by_cases h32 : value.length ≤ 32
 ·have h32' : (32 < (value.length : Int)) = False:=by simp; omega
  rcases hk.form with ⟨_,rfl⟩ | ⟨b2,_,_,rfl,_⟩
  ·skip
   have HPut : Hid (∀ W,Below w.heap.size w W → Calls Tryz.prog 57 #[(.pointer none),.string ⟨(Nib.of key).toArray⟩,.string ⟨value.toArray⟩] W (KnotEnd W (Trie.put t (Nib.of key) value))):=Lib.hid (fun W hW=>trie_put t (Nib.of key) value _ W hg.wf hg.small (by omega) (Nib.fit_of key) (by rw [Nib.of_length]; omega) hv0 (by omega) (hT.next hW) (hk.next hW))
   have HNN:=Lib.hid (Trie.put_nn t (Nib.of key) value)
   have HGd:=Lib.hid (hg.put hkey hv0 h32)
   have HLen : Hid (∀ W,Below w.heap.size w W → Calls Tryz.prog 55 #[.pointer (some ⟨b,0,none⟩)] W fun e w'=>e = .returned (.int .i64 (Trie.count t : Int)) ∧ W = w'):=Lib.hid (fun W hW=>trie_Len W t _ (TrieP.next ⟨hg,b,_,rfl,hbk,hk⟩ hW))
   have HR : Hid (Trie.putCode key value = 0):=Lib.hid (by simp [Trie.putCode,hkey,ne2,h32])
   have hcI : ((1024 : Int) ≤ (Trie.count t : Int)) = False:=by simp; omega
   clear hk hg hbk hT hc hkey hv0 h32
   go_enter Tryz.func13,Tryz.ntmps13
   go_upto_region 6 with (first | (go_at_call 53; refine (HKy.out _).mono ?_; rintro e w1 ⟨rfl,rfl⟩) | (go_at_call 54; refine (HOf.out _).mono ?_; rintro e w2 ⟨rfl,hb2⟩))
   have HB2:=Lib.hid hb2
   have c2:=(hb2.cell (p:=⟨b,0,none⟩) HLt.out).trans c0
   clear hb2 c0
   go_wp2_with (first | (go_at_call 55; refine (HLen.out _ HB2.out).mono ?_; rintro e w3 ⟨rfl,rfl⟩) | (go_at_call 57; refine (HPut.out _ HB2.out).mono ?_; rintro e w3 ⟨x,rfl,hk,hb⟩; obtain ⟨b3,rfl⟩:=hk.ptr HNN.out))
   have hw4 : Below w3.heap.size w3 (w3.alloc (.cells #[.pointer (some ⟨b3,0,none⟩)] 115)):=by go_grown
   exact HP.out 0 _ _ HR.out (HB2.out.nxt (hb.nxt hw4)) (fun _=>⟨HGd.out,_,_,rfl,Blk.new _ _ _,hk.next hw4⟩) (fun h=>absurd rfl h)
  ·skip
   have HPut : Hid (∀ W,Below w.heap.size w W → Calls Tryz.prog 57 #[(.pointer (some ⟨b2,0,none⟩)),.string ⟨(Nib.of key).toArray⟩,.string ⟨value.toArray⟩] W (KnotEnd W (Trie.put t (Nib.of key) value))):=Lib.hid (fun W hW=>trie_put t (Nib.of key) value _ W hg.wf hg.small (by omega) (Nib.fit_of key) (by rw [Nib.of_length]; omega) hv0 (by omega) (hT.next hW) (hk.next hW))
   have HNN:=Lib.hid (Trie.put_nn t (Nib.of key) value)
   have HGd:=Lib.hid (hg.put hkey hv0 h32)
   have HLen : Hid (∀ W,Below w.heap.size w W → Calls Tryz.prog 55 #[.pointer (some ⟨b,0,none⟩)] W fun e w'=>e = .returned (.int .i64 (Trie.count t : Int)) ∧ W = w'):=Lib.hid (fun W hW=>trie_Len W t _ (TrieP.next ⟨hg,b,_,rfl,hbk,hk⟩ hW))
   have HR : Hid (Trie.putCode key value = 0):=Lib.hid (by simp [Trie.putCode,hkey,ne2,h32])
   have hcI : ((1024 : Int) ≤ (Trie.count t : Int)) = False:=by simp; omega
   clear hk hg hbk hT hc hkey hv0 h32
   go_enter Tryz.func13,Tryz.ntmps13
   go_upto_region 6 with (first | (go_at_call 53; refine (HKy.out _).mono ?_; rintro e w1 ⟨rfl,rfl⟩) | (go_at_call 54; refine (HOf.out _).mono ?_; rintro e w2 ⟨rfl,hb2⟩))
   have HB2:=Lib.hid hb2
   have c2:=(hb2.cell (p:=⟨b,0,none⟩) HLt.out).trans c0
   clear hb2 c0
   go_wp2_with (first | (go_at_call 55; refine (HLen.out _ HB2.out).mono ?_; rintro e w3 ⟨rfl,rfl⟩) | (go_at_call 57; refine (HPut.out _ HB2.out).mono ?_; rintro e w3 ⟨x,rfl,hk,hb⟩; obtain ⟨b3,rfl⟩:=hk.ptr HNN.out))
   have hw4 : Below w3.heap.size w3 (w3.alloc (.cells #[.pointer (some ⟨b3,0,none⟩)] 115)):=by go_grown
   exact HP.out 0 _ _ HR.out (HB2.out.nxt (hb.nxt hw4)) (fun _=>⟨HGd.out,_,_,rfl,Blk.new _ _ _,hk.next hw4⟩) (fun h=>absurd rfl h)
 ·have h32' : 32 < (value.length : Int):=by omega
  have HR : Hid (Trie.putCode key value = 2):=Lib.hid (by simp [Trie.putCode,hkey,ne2]; omega)
  clear hbk hk hg hkey hT
  go_enter Tryz.func13,Tryz.ntmps13
  go_wp2_with (go_at_call 53; refine (HKy.out _).mono ?_; rintro e w1 ⟨rfl,rfl⟩)
  exact HP.out 2 _ _ HR.out (Below.refl _ _) (fun h=>by simp at h) (fun _=>rfl)
end Go.Proofs.YtnelhjfjkkdoaaaGreatDoor
