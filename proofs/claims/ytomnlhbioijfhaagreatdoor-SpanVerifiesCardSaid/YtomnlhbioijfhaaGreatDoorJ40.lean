import Derived.Test.YtomnlhbioijfhaaGreatDoorJ39
import Derived.Test.YtomnlhbioijfhaaGreatDoorJ31
set_option linter.unusedSimpArgs false
set_option linter.unusedVariables false
namespace Go.Proofs.YtomnlhbioijfhaaGreatDoor
open Go.RowKit Go.Instr
attribute [local go_sem] ba_get ByteArray.mk_append_mk
attribute [local go_sem ↓] Go.wp_at_zero Go.wp_at_succ
theorem run_load_part {W : World} {b : Nat} {cs : List Value} (h : Blk W b 91 cs.toArray) (h3 : cs.length = 3) : (loadVar 91 ⟨b,0,none⟩).run Tryz.prog W = .ok (.agg cs.toArray) W :=
 run_loadVar_mid (P:=Tryz.prog) W b 0 91 cs _ (Blk.range0 h) Tryz.underlying91 rfl (by rw [h3]; exact info_part)
theorem results_cell1 {P : Program} {fn : Func} {tmps : Array Value} {w : World} {a : Tmp} {t : TypeId} {p : Addr} {v : Value} (hr : fn.results = #[.cell a t]) (ha : tmps.getD a undef = .pointer (some p)) (hv : (loadVar t p).run P w = .ok v w) :
  (results fn tmps).run P w = .ok v w:=by
 unfold results
 rw [hr]
 rw [Array.getD_eq_getD_getElem?] at ha
 simp [Sem.run_bind,ha,hv,asAddr]
theorem part_stored {w W : World} {rb : Nat} {a b c : Value} (h : Blk W rb 91 #[a,b,c]) (hB : Below w.heap.size w W) (hr : w.heap.size ≤ rb) (x y z : Value) :
  Blk (((W.setCell ⟨rb,0,none⟩ x).setCell ⟨rb,1,none⟩ y).setCell ⟨rb,2,none⟩ z) rb 91 #[x,y,z] ∧ Below w.heap.size w (((W.setCell ⟨rb,0,none⟩ x).setCell ⟨rb,1,none⟩ y).setCell ⟨rb,2,none⟩ z) :=
 ⟨((h.set_ 0 x).set_ 1 y).set_ 2 z,((hB.setCell (p:=⟨rb,0,none⟩) hr _).setCell (p:=⟨rb,1,none⟩) hr _).setCell (p:=⟨rb,2,none⟩) hr _⟩
set_option maxRecDepth 100000 in
set_option maxHeartbeats 2000000 in
theorem ref14_Gather_bad (w : World) (ok : Nat → Prop) (st : Trie.Gst) (cs : Array Value) (h : PartC ok w (false,st) cs) (sum pl f e : List UInt8) :
  Calls Tryz.prog 41 #[.agg cs,.string ⟨sum.toArray⟩,.string ⟨pl.toArray⟩,.string ⟨f.toArray⟩,.string ⟨e.toArray⟩] w (PartEnd ok w (false,st)):=by
 rcases h with ⟨h,_⟩ | ⟨_,rfl⟩
 ·cases h
 have HP : Hid (∀ cs w',cs = #[.slice none 0 0,.slice none 0 0,.bool false] → True → Below w.heap.size w w' → PartEnd ok w (false,st) (.returned (.agg cs)) w'):=Lib.hid (fun cs w' h1 _ h2=>⟨cs,rfl,.inr ⟨rfl,h1⟩,h2⟩)
 generalize PartEnd ok w (false,st) = P at HP ⊢
 go_enter Tryz.func41,Tryz.ntmps41
 go_upto_region 1 with fail
 have F00:=Live.ha (Lib.hid (Live.start w)) #[.slice none 0 0,.slice none 0 0,.bool false] 91
 have F01:=Live.ha F00 #[.slice none 0 0,.slice none 0 0,.bool false] 91
 rw [show (w.alloc (.cells #[.slice none 0 0,.slice none 0 0,.bool false] 91)).heap.size = w.heap.size + 1 from by show (w.heap.push _).size = _; exact Array.size_push _] at F01
 generalize (w.alloc (.cells #[.slice none 0 0,.slice none 0 0,.bool false] 91)).alloc (.cells #[.slice none 0 0,.slice none 0 0,.bool false] 91) = W0 at F01 ⊢
 clear F00
 obtain ⟨rb,hrb⟩ : ∃ rb,w.heap.size + 1 = rb:=⟨_,rfl⟩
 obtain ⟨pb,hpb⟩ : ∃ pb,w.heap.size = pb:=⟨_,rfl⟩
 have F0 : Hid (Live w W0 [(rb,91,#[.slice none 0 0,.slice none 0 0,.bool false]),(pb,91,#[.slice none 0 0,.slice none 0 0,.bool false])]):=by rw [← hrb,← hpb]; exact F01
 rw [hrb,hpb]
 clear F01 hrb hpb
 have k0_0 : W0.cell? ⟨rb,0,none⟩ = some (.slice none 0 0):=F0.out.cell 0 0 rfl rfl; have k0_1 : W0.cell? ⟨rb,1,none⟩ = some (.slice none 0 0):=F0.out.cell 0 1 rfl rfl; have k0_2 : W0.cell? ⟨rb,2,none⟩ = some (.bool false):=F0.out.cell 0 2 rfl rfl
 have f0_0 : W0.frozen? ⟨rb,0,none⟩ = false:=F0.out.frozen 0 0 rfl; have f0_1 : W0.frozen? ⟨rb,1,none⟩ = false:=F0.out.frozen 0 1 rfl; have f0_2 : W0.frozen? ⟨rb,2,none⟩ = false:=F0.out.frozen 0 2 rfl
 have k1_0 : W0.cell? ⟨pb,0,none⟩ = some (.slice none 0 0):=F0.out.cell 1 0 rfl rfl; have k1_1 : W0.cell? ⟨pb,1,none⟩ = some (.slice none 0 0):=F0.out.cell 1 1 rfl rfl; have k1_2 : W0.cell? ⟨pb,2,none⟩ = some (.bool false):=F0.out.cell 1 2 rfl rfl
 go_wp2_with fail
 obtain ⟨t1,t2⟩:=part_stored (F0.out.blk 0 rfl) F0.out.b (F0.out.own 0 rfl) (.slice none 0 0) (.slice none 0 0) (.bool false)
 exact bodyPost_ret (v:=.agg #[(.slice none 0 0),(.slice none 0 0),(.bool false)]) (results_cell1 rfl rfl (run_load_part (cs := [(.slice none 0 0),(.slice none 0 0),(.bool false)]) t1 rfl)) rfl (HP.out _ _ rfl trivial t2)
theorem own_at_block {W : World} {base e size n c : Nat} {A : Option Addr} {xs : List Value} (own : W.ownsRow base e size (.slice A n c) n xs) : ∀ a,A = some a → (Value.slice A n c).ownBlock = some a.block:=by
 intro a ha
 rcases own.2 with ⟨hv,_⟩ | ⟨g,cap,cur,hv,_⟩
 ·injection hv with hv _ _; rw [hv] at ha; cases ha
 ·injection hv with hv _ _
  rw [hv] at ha
  injection ha with ha
  rw [← ha,hv]
  rfl
theorem key_len {s : List UInt8} (h : (Nib.key s).2 = 0) : s.length = 2 * (Nib.key s).1.length:=by
 unfold Nib.key at h ⊢
 split at h
 ·rename_i hf
  rw [if_pos hf]
  split at h
  ·cases h
  ·rename_i he
   rw [if_neg he]
   simp only [Nib.joined_length]
   omega
 ·cases h
set_option maxRecDepth 100000 in
theorem text_cut2 (A : Option Addr) (x : List UInt8) (l : List (List UInt8)) (m c : Nat) (hn : l.length = m) (hc : m + 1 ≤ c) (w : World) (B : Nat) (hr : Reads w B 1 A (m + 1) (strv (x :: l))) :
  ∃ A1 c1,(∀ w,(Instr.sliceAt 25 (.slice A (m + 1) c) (some (.int .i64 1)) none none).run Tryz.prog w = .ok (.slice A1 m c1) w) ∧ Reads w B 1 A1 l.length (strv l) ∧ m ≤ c1 ∧ (∀ a,A1 = some a → ∃ a0,A = some a0 ∧ a0.block = a.block):=by
 refine ⟨if c = 1 then A else A.map (·.add (1 * 1)),c - 1,fun w => ?_, ?_,by omega, ?_⟩
 ·rw [run_sliceAt_slice _ _ _ _ _ _ Tryz.underlying25,run_slice_l _ _ _ _ _ Tryz.underlying25 _ _ (by omega) (by omega)]
  rw [show (sizeOf (Program.elem Tryz.prog 25)).run Tryz.prog w = .ok 1 w from str_size w]
  rfl
 ·have:=hr.cut (k:=1) (cap:=c) (by omega) hc
  rw [show m + 1 - 1 = l.length by omega,show (strv (x :: l)).drop (1 * 1) = strv l from rfl] at this
  exact this
 ·intro a ha
  split at ha
  ·exact ⟨a,ha,rfl⟩
  ·cases A with
   | none=>cases ha
   | some a0 =>
    injection ha with ha
    exact ⟨a0,rfl,by rw [← ha,block_of_add]⟩
set_option maxRecDepth 100000 in
set_option maxHeartbeats 8000000 in
theorem ref14_Gather (f e : List UInt8) (hf : f.length ≤ 1000) (he : e.length ≤ 1000) :
  ∀ (n : Nat) (ok : Nat → Prop) (r : Bool × Trie.Gst) (cs : Array Value) (w : World) (sum pl : List UInt8),r.2.2.length < n → r.2.1.length + r.2.2.length ≤ 100000 → (∀ x ∈ r.2.2,x.length ≤ 900000) → pl.length + 16 * r.2.2.length ≤ 1000 → PartC ok w r cs → (∀ b,w.heap.size ≤ b → ok b) →
  Calls Tryz.prog 41 #[.agg cs,.string ⟨sum.toArray⟩,.string ⟨pl.toArray⟩,.string ⟨f.toArray⟩,.string ⟨e.toArray⟩] w (PartEnd ok w (Trie.stepS (Trie.gathW (coverW (Nib.of f) (Nib.of e) e) f e n) sum pl r)):=by
 intro n
 induction n with
 | zero=>intro ok r cs w sum pl h; omega
 | succ n ih =>
 intro ok r cs w sum pl hlt hsz hx hpl hC hok
 obtain ⟨b,l,nodes⟩:=r
 cases b with
 | false=>exact ref14_Gather_bad w ok _ cs hC sum pl f e
 | true =>
 simp only at hlt hsz hx hpl
 rcases hC with ⟨_,A,c,B,d,rfl,hRA,hRB,hd,hoA,hoB⟩ | ⟨h,_⟩
 rotate_left
 ·cases h
 simp only at hRA hRB hd
 have HIH:=Lib.hid ih
 clear ih
 have HP : Hid (∀ r' cs' w',Trie.gathW (coverW (Nib.of f) (Nib.of e) e) f e (n + 1) sum pl (l,nodes) = r' → PartC ok w' r' cs' → Below w.heap.size w w' → PartEnd ok w (Trie.gathW (coverW (Nib.of f) (Nib.of e) e) f e (n + 1) sum pl (l,nodes)) (.returned (.agg cs')) w'):=Lib.hid (fun r' cs' w' h1 h2 h3=>⟨cs',rfl,by rw [h1]; exact h2,h3⟩)
 have HBad : Hid (∀ w',(Trie.gathW (coverW (Nib.of f) (Nib.of e) e) f e (n + 1) sum pl (l,nodes)).1 = false → Below w.heap.size w w' → PartEnd ok w (Trie.gathW (coverW (Nib.of f) (Nib.of e) e) f e (n + 1) sum pl (l,nodes)) (.returned (.agg #[.slice none 0 0,.slice none 0 0,.bool false])) w'):=Lib.hid (fun w' h1 h2=>⟨_,rfl,.inr ⟨h1,rfl⟩,h2⟩)
 have HM : Hid (∀ W,Calls Tryz.prog 82 #[.string ⟨pl.toArray⟩,.string ⟨f.toArray⟩,.string ⟨e.toArray⟩] W (Ret W (.bool (coverW (Nib.of f) (Nib.of e) e pl)))):=Lib.hid (fun W=>ref10_In W pl f e (by omega) (by omega) (by omega))
 have HRA:=Lib.hid hRA
 have HRB:=Lib.hid hRB
 have HOK:=Lib.hid (And.intro hok (And.intro hoA (And.intro hoB hd)))
 rw [show Trie.stepS (Trie.gathW (coverW (Nib.of f) (Nib.of e) e) f e (n + 1)) sum pl (true,l,nodes) = Trie.gathW (coverW (Nib.of f) (Nib.of e) e) f e (n + 1) sum pl (l,nodes) from rfl]
 clear hok hoA hoB hd hRA hRB
 generalize PartEnd ok w (Trie.gathW (coverW (Nib.of f) (Nib.of e) e) f e (n + 1) sum pl (l,nodes)) = P at HP HBad ⊢
 have HM:=Lib.hid (HM.out)
 cases hm : coverW (Nib.of f) (Nib.of e) e pl with
 | false =>
  have HX:=Lib.hid (Trie.gathW_no (coverW (Nib.of f) (Nib.of e) e) f e n sum pl (l,nodes) hm)
  rw [hm] at HM
  replace HM : Hid (∀ W,Calls Tryz.prog 82 #[.string ⟨pl.toArray⟩,.string ⟨f.toArray⟩,.string ⟨e.toArray⟩] W (Ret W (.bool false))):=HM
  clear hx hm HBad HIH
  go_enter Tryz.func41,Tryz.ntmps41
  go_upto_region 1 with fail
  have F00:=Live.ha (Lib.hid (Live.start w)) #[(.slice A l.length c),(.slice B nodes.length d),(.bool true)] 91
  have F01:=Live.ha F00 #[.slice none 0 0,.slice none 0 0,.bool false] 91
  rw [show (w.alloc (.cells #[(.slice A l.length c),(.slice B nodes.length d),(.bool true)] 91)).heap.size = w.heap.size + 1 from by show (w.heap.push _).size = _; exact Array.size_push _] at F01
  generalize (w.alloc (.cells #[(.slice A l.length c),(.slice B nodes.length d),(.bool true)] 91)).alloc (.cells #[.slice none 0 0,.slice none 0 0,.bool false] 91) = W0 at F01 ⊢
  clear F00
  obtain ⟨rb,hrb⟩ : ∃ rb,w.heap.size + 1 = rb:=⟨_,rfl⟩
  obtain ⟨pb,hpb⟩ : ∃ pb,w.heap.size = pb:=⟨_,rfl⟩
  have F0 : Hid (Live w W0 [(rb,91,#[.slice none 0 0,.slice none 0 0,.bool false]),(pb,91,#[(.slice A l.length c),(.slice B nodes.length d),(.bool true)])]):=by rw [← hrb,← hpb]; exact F01
  rw [hrb,hpb]
  clear F01 hrb hpb
  have k0_0 : W0.cell? ⟨rb,0,none⟩ = some (.slice none 0 0):=F0.out.cell 0 0 rfl rfl; have k0_1 : W0.cell? ⟨rb,1,none⟩ = some (.slice none 0 0):=F0.out.cell 0 1 rfl rfl; have k0_2 : W0.cell? ⟨rb,2,none⟩ = some (.bool false):=F0.out.cell 0 2 rfl rfl
  have f0_0 : W0.frozen? ⟨rb,0,none⟩ = false:=F0.out.frozen 0 0 rfl; have f0_1 : W0.frozen? ⟨rb,1,none⟩ = false:=F0.out.frozen 0 1 rfl; have f0_2 : W0.frozen? ⟨rb,2,none⟩ = false:=F0.out.frozen 0 2 rfl
  have k1_0 : W0.cell? ⟨pb,0,none⟩ = some ((.slice A l.length c)):=F0.out.cell 1 0 rfl rfl; have k1_1 : W0.cell? ⟨pb,1,none⟩ = some ((.slice B nodes.length d)):=F0.out.cell 1 1 rfl rfl; have k1_2 : W0.cell? ⟨pb,2,none⟩ = some ((.bool true)):=F0.out.cell 1 2 rfl rfl
  go_wp2_with fail
  refine (HM.out _).mono ?_
  rintro q w1 ⟨rfl,hb⟩
  have F1:=Live.hb F0 hb
  clear hb F0 HM k0_0 k0_1 k0_2 f0_0 f0_1 f0_2 k1_0 k1_1 k1_2
  have k1_0 : w1.cell? ⟨pb,0,none⟩ = some (.slice A l.length c):=F1.out.cell 1 0 rfl rfl; have k1_1 : w1.cell? ⟨pb,1,none⟩ = some (.slice B nodes.length d):=F1.out.cell 1 1 rfl rfl; have k1_2 : w1.cell? ⟨pb,2,none⟩ = some (.bool true):=F1.out.cell 1 2 rfl rfl
  have k0_0 : w1.cell? ⟨rb,0,none⟩ = some (.slice none 0 0):=F1.out.cell 0 0 rfl rfl; have k0_1 : w1.cell? ⟨rb,1,none⟩ = some (.slice none 0 0):=F1.out.cell 0 1 rfl rfl; have k0_2 : w1.cell? ⟨rb,2,none⟩ = some (.bool false):=F1.out.cell 0 2 rfl rfl
  have f0_0 : w1.frozen? ⟨rb,0,none⟩ = false:=F1.out.frozen 0 0 rfl; have f0_1 : w1.frozen? ⟨rb,1,none⟩ = false:=F1.out.frozen 0 1 rfl; have f0_2 : w1.frozen? ⟨rb,2,none⟩ = false:=F1.out.frozen 0 2 rfl
  go_wp2_with fail
  obtain ⟨t1,t2⟩:=part_stored (F1.out.blk 0 rfl) F1.out.b (F1.out.own 0 rfl) (.slice A l.length c) (.slice B nodes.length d) (.bool true)
  refine bodyPost_ret (v:=.agg #[.slice A l.length c,.slice B nodes.length d,.bool true]) (results_cell1 rfl rfl (run_load_part (cs := [.slice A l.length c,.slice B nodes.length d,.bool true]) t1 rfl)) rfl (HP.out _ _ _ HX.out ?_ t2)
  exact .inl ⟨rfl,A,c,B,d,rfl,(HRA.out.below t2).more t2.size,(HRB.out.below t2).more t2.size,HOK.out.2.2.2,HOK.out.2.1,HOK.out.2.2.1⟩
 | true =>
  rw [hm] at HM
  replace HM : Hid (∀ W,Calls Tryz.prog 82 #[.string ⟨pl.toArray⟩,.string ⟨f.toArray⟩,.string ⟨e.toArray⟩] W (Ret W (.bool true))):=HM
  cases nodes with
  | nil =>
   have HF1 : Hid ((Trie.gathW (coverW (Nib.of f) (Nib.of e) e) f e (n + 1) sum pl (l, [])).1 = false):=Lib.hid (by rw [Trie.gathW_nil _ f e n sum pl l hm])
   clear hx hm HIH HP
   rw [List.length_nil] at *
   go_enter Tryz.func41,Tryz.ntmps41
   go_upto_region 1 with fail
   have F00:=Live.ha (Lib.hid (Live.start w)) #[(.slice A l.length c),(.slice B 0 d),(.bool true)] 91
   have F01:=Live.ha F00 #[.slice none 0 0,.slice none 0 0,.bool false] 91
   rw [show (w.alloc (.cells #[(.slice A l.length c),(.slice B 0 d),(.bool true)] 91)).heap.size = w.heap.size + 1 from by show (w.heap.push _).size = _; exact Array.size_push _] at F01
   generalize (w.alloc (.cells #[(.slice A l.length c),(.slice B 0 d),(.bool true)] 91)).alloc (.cells #[.slice none 0 0,.slice none 0 0,.bool false] 91) = W0 at F01 ⊢
   clear F00
   obtain ⟨rb,hrb⟩ : ∃ rb,w.heap.size + 1 = rb:=⟨_,rfl⟩
   obtain ⟨pb,hpb⟩ : ∃ pb,w.heap.size = pb:=⟨_,rfl⟩
   have F0 : Hid (Live w W0 [(rb,91,#[.slice none 0 0,.slice none 0 0,.bool false]),(pb,91,#[(.slice A l.length c),(.slice B 0 d),(.bool true)])]):=by rw [← hrb,← hpb]; exact F01
   rw [hrb,hpb]
   clear F01 hrb hpb
   have k0_0 : W0.cell? ⟨rb,0,none⟩ = some (.slice none 0 0):=F0.out.cell 0 0 rfl rfl; have k0_1 : W0.cell? ⟨rb,1,none⟩ = some (.slice none 0 0):=F0.out.cell 0 1 rfl rfl; have k0_2 : W0.cell? ⟨rb,2,none⟩ = some (.bool false):=F0.out.cell 0 2 rfl rfl
   have f0_0 : W0.frozen? ⟨rb,0,none⟩ = false:=F0.out.frozen 0 0 rfl; have f0_1 : W0.frozen? ⟨rb,1,none⟩ = false:=F0.out.frozen 0 1 rfl; have f0_2 : W0.frozen? ⟨rb,2,none⟩ = false:=F0.out.frozen 0 2 rfl
   have k1_0 : W0.cell? ⟨pb,0,none⟩ = some ((.slice A l.length c)):=F0.out.cell 1 0 rfl rfl; have k1_1 : W0.cell? ⟨pb,1,none⟩ = some ((.slice B 0 d)):=F0.out.cell 1 1 rfl rfl; have k1_2 : W0.cell? ⟨pb,2,none⟩ = some ((.bool true)):=F0.out.cell 1 2 rfl rfl
   go_wp2_with fail
   refine (HM.out _).mono ?_
   rintro q w1 ⟨rfl,hb⟩
   have F1:=Live.hb F0 hb
   clear hb F0 HM k0_0 k0_1 k0_2 f0_0 f0_1 f0_2 k1_0 k1_1 k1_2
   have k1_0 : w1.cell? ⟨pb,0,none⟩ = some (.slice A l.length c):=F1.out.cell 1 0 rfl rfl; have k1_1 : w1.cell? ⟨pb,1,none⟩ = some (.slice B 0 d):=F1.out.cell 1 1 rfl rfl; have k1_2 : w1.cell? ⟨pb,2,none⟩ = some (.bool true):=F1.out.cell 1 2 rfl rfl
   have k0_0 : w1.cell? ⟨rb,0,none⟩ = some (.slice none 0 0):=F1.out.cell 0 0 rfl rfl; have k0_1 : w1.cell? ⟨rb,1,none⟩ = some (.slice none 0 0):=F1.out.cell 0 1 rfl rfl; have k0_2 : w1.cell? ⟨rb,2,none⟩ = some (.bool false):=F1.out.cell 0 2 rfl rfl
   have f0_0 : w1.frozen? ⟨rb,0,none⟩ = false:=F1.out.frozen 0 0 rfl; have f0_1 : w1.frozen? ⟨rb,1,none⟩ = false:=F1.out.frozen 0 1 rfl; have f0_2 : w1.frozen? ⟨rb,2,none⟩ = false:=F1.out.frozen 0 2 rfl
   go_upto_region 4 with fail
   have F2:=Live.ha F1 #[.slice none 0 0,.slice none 0 0,.bool false] 91
   clear k0_0 k0_1 k0_2 f0_0 f0_1 f0_2 k1_0 k1_1 k1_2
   have B12 : Hid (Below w1.heap.size w1 (World.alloc w1 (.cells #[.slice none 0 0,.slice none 0 0,.bool false] 91))):=Lib.hid ((Below.refl _ w1).alloc (Nat.le_refl _) _)
   generalize World.alloc w1 _ = W2 at F2 B12 ⊢
   generalize w1.heap.size = bb at F2 ⊢
   clear F1
   have k2_0 : W2.cell? ⟨pb,0,none⟩ = some (.slice A l.length c):=F2.out.cell 2 0 rfl rfl; have k2_1 : W2.cell? ⟨pb,1,none⟩ = some (.slice B 0 d):=F2.out.cell 2 1 rfl rfl; have k2_2 : W2.cell? ⟨pb,2,none⟩ = some (.bool true):=F2.out.cell 2 2 rfl rfl
   have z0 : W2.cell? ⟨bb,0,none⟩ = some (.slice none 0 0):=F2.out.cell 0 0 rfl rfl
   have z1 : W2.cell? ⟨bb,1,none⟩ = some (.slice none 0 0):=F2.out.cell 0 1 rfl rfl
   have z2 : W2.cell? ⟨bb,2,none⟩ = some (.bool false):=F2.out.cell 0 2 rfl rfl
   have y0 : W2.cell? ⟨rb,0,none⟩ = some (.slice none 0 0):=F2.out.cell 1 0 rfl rfl
   have y1 : W2.cell? ⟨rb,1,none⟩ = some (.slice none 0 0):=F2.out.cell 1 1 rfl rfl
   have y2 : W2.cell? ⟨rb,2,none⟩ = some (.bool false):=F2.out.cell 1 2 rfl rfl
   have g0:=F2.out.frozen 1 0 rfl
   have g1:=F2.out.frozen 1 1 rfl
   have g2:=F2.out.frozen 1 2 rfl
   go_wp2_with fail
   obtain ⟨t1,t2⟩:=part_stored (F2.out.blk 1 rfl) F2.out.b (F2.out.own 1 rfl) (.slice none 0 0) (.slice none 0 0) (.bool false)
   have hres:=HBad.out _ HF1.out t2
   have ld:=run_load_part (cs := [.slice none 0 0,.slice none 0 0,.bool false]) t1 rfl
   clear t1 t2
   generalize ((W2.setCell ⟨rb,0,none⟩ (.slice none 0 0)).setCell ⟨rb,1,none⟩ (.slice none 0 0)).setCell ⟨rb,2,none⟩ (.bool false) = WF at *
   exact bodyPost_ret (v:=.agg #[.slice none 0 0,.slice none 0 0,.bool false]) (results_cell1 rfl rfl ld) rfl hres
  | cons x left =>
   have HX:=Lib.hid (Trie.gathW_cons (coverW (Nib.of f) (Nib.of e) e) f e n sum pl l x left hm)
   have HF0 : Hid (∀ X,Trie.gathW (coverW (Nib.of f) (Nib.of e) e) f e (n + 1) sum pl (l,x :: left) = X → X.1 = false → (Trie.gathW (coverW (Nib.of f) (Nib.of e) e) f e (n + 1) sum pl (l,x :: left)).1 = false):=Lib.hid (fun X h1 h2=>by rw [h1]; exact h2)
   generalize Trie.gathW (coverW (Nib.of f) (Nib.of e) e) f e (n + 1) sum pl (l,x :: left) = X at *
   have hxl:=hx x (by simp)
   have HTag : Hid (∀ W,Calls Tryz.prog 83 #[.int .i64 1,.string ⟨x.toArray⟩] W fun e w'=>e = .returned (.string ⟨(shaW (1 :: x)).toArray⟩) ∧ Below W.heap.size W w'):=Lib.hid (fun W=>ref04_Tagged W 1 (by omega) x (by omega))
   have HDec:=Lib.hid (fun W=>ref08_Decode W x (by omega))
   have hsm:=decN_small x
   obtain ⟨ad,off,hBe,hbl,hcell⟩:=few_cell HRB.out (i:=0) (by simp)
   simp only [List.getElem_cons_zero,Nat.add_zero] at hcell
   have HCell:=Lib.hid hcell
   obtain ⟨m,hmm⟩ : ∃ m,left.length = m:=⟨_,rfl⟩
   have hdd:=HOK.out.2.2.2
   rw [List.length_cons,hmm] at hdd
   have HRB1:=HRB.out
   rw [List.length_cons,hmm] at HRB1
   obtain ⟨B1,d1,hcut,HR1,hd1,hB1⟩:=text_cut2 B x left m d hmm hdd w w.heap.size HRB1
   have HLn : Hid (m < n ∧ l.length + m + 1 ≤ 100000 ∧ (∀ y ∈ left,y.length ≤ 900000) ∧ pl.length + 16 * (m + 1) ≤ 1000):=Lib.hid (by
    rw [List.length_cons,hmm] at hlt hsz hpl
    exact ⟨by omega,by omega,fun y hy=>hx y (List.mem_cons_of_mem _ hy),hpl⟩)
   have HL1 : Hid (Reads w w.heap.size 1 B1 left.length (strv left) ∧ left.length = m ∧ m ≤ d1 ∧ (∀ a,B1 = some a → ok a.block ∧ a.block < w.heap.size)):=Lib.hid ⟨HR1,hmm,hd1,fun a ha=>by
    obtain ⟨a0,e0,e1⟩:=hB1 a ha
    rw [hBe] at e0
    injection e0 with e0
    subst e0
    exact ⟨by rw [← e1]; exact HOK.out.2.2.1 _ hBe,by rw [← e1]; exact hbl⟩⟩
   have hm0 : ((m : Int) + 1 == 0) = false:=by simp; omega
   have hm1 : (0 : Int) < (m : Int) + 1:=by omega
   have hm2 : (m : Int) ≤ 100000:=by have:=HLn.out; omega
   subst hBe
   have hpl2 : pl.length ≤ 1000:=by have:=HLn.out; omega
   rw [List.length_cons,hmm]
   generalize decN x = dn at *
   obtain ⟨⟨k,p,v,K⟩,dc⟩:=dn
   unfold DecNEnd at HDec
   simp only at HX HDec hsm
   have HSz:=Lib.hid (nodeV_size (k:=k) (p:=p) (v:=v) hsm.2)
   have SZ : (Tryz.prog.info? 117).map (·.size) = some (nodeV k p v K).toArray.size:=by rw [List.size_toArray,HSz.out]; exact info_node
   have HON:=nodeV_one k p v K
   have HKK:=Lib.hid hsm.2
   have HPl : Hid (pl.length ≤ 4000000 ∧ p.length ≤ 16):=Lib.hid ⟨by omega,hsm.1⟩
   have hsum2 : pl.length + p.length ≤ 9223372036854775807:=by have:=hsm.1; omega
   generalize shaW (1 :: x) = sm at *
   have HCut:=Lib.hid hcut
   clear hm hx hlt hsz hpl hxl hsm hbl hcell hdd HRB1 hcut HR1 hd1 hB1 hmm HRB
   by_cases hse : sm = sum
   ·subst hse
    have hs1 : (sm == sm) = true:=by simp
    by_cases hdc : dc = 0
    ·subst hdc
     rw [if_neg (by simp)] at HX
     have HO : Hid (Trie.ownGa f e (k,p,v,K) pl l = if v = [] then (true,l) else Trie.itemGa f e (pl ++ p) v l):=Lib.hid rfl
     go_enter Tryz.func41,Tryz.ntmps41
     go_upto_region 1 with fail
     have F00:=Live.ha (Lib.hid (Live.start w)) #[(.slice A l.length c),(.slice (some ⟨ad,off,none⟩) (m + 1) d),(.bool true)] 91
     have F01:=Live.ha F00 #[.slice none 0 0,.slice none 0 0,.bool false] 91
     rw [show (w.alloc (.cells #[(.slice A l.length c),(.slice (some ⟨ad,off,none⟩) (m + 1) d),(.bool true)] 91)).heap.size = w.heap.size + 1 from by show (w.heap.push _).size = _; exact Array.size_push _] at F01
     generalize (w.alloc (.cells #[(.slice A l.length c),(.slice (some ⟨ad,off,none⟩) (m + 1) d),(.bool true)] 91)).alloc (.cells #[.slice none 0 0,.slice none 0 0,.bool false] 91) = W0 at F01 ⊢
     clear F00
     obtain ⟨rb,hrb⟩ : ∃ rb,w.heap.size + 1 = rb:=⟨_,rfl⟩
     obtain ⟨pb,hpb⟩ : ∃ pb,w.heap.size = pb:=⟨_,rfl⟩
     have F0 : Hid (Live w W0 [(rb,91,#[.slice none 0 0,.slice none 0 0,.bool false]),(pb,91,#[(.slice A l.length c),(.slice (some ⟨ad,off,none⟩) (m + 1) d),(.bool true)])]):=by rw [← hrb,← hpb]; exact F01
     rw [hrb,hpb]
     clear F01 hrb hpb
     have k0_0 : W0.cell? ⟨rb,0,none⟩ = some (.slice none 0 0):=F0.out.cell 0 0 rfl rfl; have k0_1 : W0.cell? ⟨rb,1,none⟩ = some (.slice none 0 0):=F0.out.cell 0 1 rfl rfl; have k0_2 : W0.cell? ⟨rb,2,none⟩ = some (.bool false):=F0.out.cell 0 2 rfl rfl
     have f0_0 : W0.frozen? ⟨rb,0,none⟩ = false:=F0.out.frozen 0 0 rfl; have f0_1 : W0.frozen? ⟨rb,1,none⟩ = false:=F0.out.frozen 0 1 rfl; have f0_2 : W0.frozen? ⟨rb,2,none⟩ = false:=F0.out.frozen 0 2 rfl
     have k1_0 : W0.cell? ⟨pb,0,none⟩ = some ((.slice A l.length c)):=F0.out.cell 1 0 rfl rfl; have k1_1 : W0.cell? ⟨pb,1,none⟩ = some ((.slice (some ⟨ad,off,none⟩) (m + 1) d)):=F0.out.cell 1 1 rfl rfl; have k1_2 : W0.cell? ⟨pb,2,none⟩ = some ((.bool true)):=F0.out.cell 1 2 rfl rfl
     go_wp2_with fail
     refine (HM.out _).mono ?_
     rintro q w1 ⟨rfl,hb⟩
     have F1:=Live.hb F0 hb
     clear hb F0 HM k0_0 k0_1 k0_2 f0_0 f0_1 f0_2 k1_0 k1_1 k1_2
     have k1_0 : w1.cell? ⟨pb,0,none⟩ = some (.slice A l.length c):=F1.out.cell 1 0 rfl rfl; have k1_1 : w1.cell? ⟨pb,1,none⟩ = some (.slice (some ⟨ad,off,none⟩) (m + 1) d):=F1.out.cell 1 1 rfl rfl; have k1_2 : w1.cell? ⟨pb,2,none⟩ = some (.bool true):=F1.out.cell 1 2 rfl rfl
     have k0_0 : w1.cell? ⟨rb,0,none⟩ = some (.slice none 0 0):=F1.out.cell 0 0 rfl rfl; have k0_1 : w1.cell? ⟨rb,1,none⟩ = some (.slice none 0 0):=F1.out.cell 0 1 rfl rfl; have k0_2 : w1.cell? ⟨rb,2,none⟩ = some (.bool false):=F1.out.cell 0 2 rfl rfl
     have f0_0 : w1.frozen? ⟨rb,0,none⟩ = false:=F1.out.frozen 0 0 rfl; have f0_1 : w1.frozen? ⟨rb,1,none⟩ = false:=F1.out.frozen 0 1 rfl; have f0_2 : w1.frozen? ⟨rb,2,none⟩ = false:=F1.out.frozen 0 2 rfl
     go_upto_region 4 with fail
     have F2:=Live.ha F1 #[.slice none 0 0,.slice none 0 0,.bool false] 91
     clear k0_0 k0_1 k0_2 f0_0 f0_1 f0_2 k1_0 k1_1 k1_2
     have B12 : Hid (Below w1.heap.size w1 (World.alloc w1 (.cells #[.slice none 0 0,.slice none 0 0,.bool false] 91))):=Lib.hid ((Below.refl _ w1).alloc (Nat.le_refl _) _)
     generalize World.alloc w1 _ = W2 at F2 B12 ⊢
     generalize w1.heap.size = bb at F2 ⊢
     clear F1
     have k2_0 : W2.cell? ⟨pb,0,none⟩ = some (.slice A l.length c):=F2.out.cell 2 0 rfl rfl; have k2_1 : W2.cell? ⟨pb,1,none⟩ = some (.slice (some ⟨ad,off,none⟩) (m + 1) d):=F2.out.cell 2 1 rfl rfl; have k2_2 : W2.cell? ⟨pb,2,none⟩ = some (.bool true):=F2.out.cell 2 2 rfl rfl
     have r0:=HCell.out _ F2.out.b
     go_wp2_with fail
     refine (HTag.out _).mono ?_
     rintro q w3 ⟨rfl,hb⟩
     have F3:=Live.hb F2 hb
     clear hb F2 HTag k2_0 k2_1 k2_2 r0
     have k2_0 : w3.cell? ⟨pb,0,none⟩ = some (.slice A l.length c):=F3.out.cell 2 0 rfl rfl; have k2_1 : w3.cell? ⟨pb,1,none⟩ = some (.slice (some ⟨ad,off,none⟩) (m + 1) d):=F3.out.cell 2 1 rfl rfl; have k2_2 : w3.cell? ⟨pb,2,none⟩ = some (.bool true):=F3.out.cell 2 2 rfl rfl
     have r0:=HCell.out _ F3.out.b
     go_wp2_with fail
     refine (HDec.out _).mono ?_
     rintro q w4 ⟨rfl,hb⟩
     have F4:=Live.ha (Live.hb F3 hb) #[.int .i64 0,.string ⟨#[]⟩,.string ⟨#[]⟩,.string ⟨#[]⟩,.string ⟨#[]⟩,.string ⟨#[]⟩,.string ⟨#[]⟩,.string ⟨#[]⟩,.string ⟨#[]⟩,.string ⟨#[]⟩,.string ⟨#[]⟩,.string ⟨#[]⟩,.string ⟨#[]⟩,.string ⟨#[]⟩,.string ⟨#[]⟩,.string ⟨#[]⟩,.string ⟨#[]⟩,.string ⟨#[]⟩,.string ⟨#[]⟩] 117
     clear hb k2_0 k2_1 k2_2 r0 HDec
     have TH : (w4.alloc (.cells #[.int .i64 0,.string ⟨#[]⟩,.string ⟨#[]⟩,.string ⟨#[]⟩,.string ⟨#[]⟩,.string ⟨#[]⟩,.string ⟨#[]⟩,.string ⟨#[]⟩,.string ⟨#[]⟩,.string ⟨#[]⟩,.string ⟨#[]⟩,.string ⟨#[]⟩,.string ⟨#[]⟩,.string ⟨#[]⟩,.string ⟨#[]⟩,.string ⟨#[]⟩,.string ⟨#[]⟩,.string ⟨#[]⟩,.string ⟨#[]⟩] 117)).there w4.heap.size 0 (nodeV k p v K).toArray.size:=by
      rw [show (nodeV k p v K).toArray.size = 19 by rw [List.size_toArray]; exact HSz.out]
      exact F4.out.there 0 19 rfl (by decide)
     go_upto_region 7 with ((with_reducible refine at_put 52 ?_); refine wpList_store_mid rfl 117 _ _ rfl w4.heap.size 0 (nodeV k p v K).toArray rfl rfl TH SZ HON ?_)
     have F5:=Live.hall F4 0 (nodeV k p v K).toArray.toList rfl HSz.out.symm
     generalize World.setCells _ w4.heap.size 0 _ = W5 at F5 ⊢
     generalize w4.heap.size = nb at F5 ⊢
     clear TH F4 F3
     have R5 : Reads W5 w.heap.size 2 A l.length (icells l):=HRA.out.below F5.out.b
     have n1 : W5.cell? ⟨nb,1,none⟩ = some (.string ⟨p.toArray⟩):=F5.out.cell 0 1 rfl rfl
     have n2 : W5.cell? ⟨nb,2,none⟩ = some (.string ⟨v.toArray⟩):=F5.out.cell 0 2 rfl rfl
     have k3_0 : W5.cell? ⟨pb,0,none⟩ = some (.slice A l.length c):=F5.out.cell 3 0 rfl rfl; have k3_1 : W5.cell? ⟨pb,1,none⟩ = some (.slice (some ⟨ad,off,none⟩) (m + 1) d):=F5.out.cell 3 1 rfl rfl; have k3_2 : W5.cell? ⟨pb,2,none⟩ = some (.bool true):=F5.out.cell 3 2 rfl rfl
     obtain ⟨i0,hi0,hz0,hz1,hz2⟩:=info_parts info_item
     have hll : l.length ≤ 100000:=by have:=HLn.out; omega
     go_upto_if 63 with (first
      | (at_builtin; refine wpList_append_any W5 rfl _ _ 24 rfl w.heap.size 77 i0 _ 2 32 Tryz.underlying24 hi0 hz0 hz1 hz2 rfl (by decide) (.slice none 0 0) 0 [] rfl (World.ownsRow_nil _ _ _ _) w.heap.size A l.length c (icells l) rfl R5 (icells_one _) (by simp only [maxLen]; omega) (by omega) F5.out.b.size ?_; intro v6 w6 own6 hg6 _; rw [Nat.zero_add,List.nil_append] at own6; obtain ⟨A6,c6,rfl,_,_,_⟩:=own_form own6; have F6:=Live.hp F5 (World.ownsRow_nil W5 w.heap.size 77 2) (Nat.le_refl _) (by simp) hg6; have O6:=Lib.hid own6; have n0 : w6.cell? ⟨nb,2,none⟩ = some (.string ⟨v.toArray⟩):=F6.out.cell 0 2 rfl rfl; clear own6 hg6)
      | fail)
     clear n1 n2 k3_0 k3_1 k3_2 R5 F5
     go_cut [14] (fun s14 wx => ∃ A7 c7 LI,s14 = .slice A7 LI.length c7 ∧ wx.ownsRow w.heap.size 77 2 (.slice A7 LI.length c7) LI.length (icells LI) ∧ Live w wx [(nb,117,(nodeV k p v K).toArray),(bb,91,#[.slice none 0 0,.slice none 0 0,.bool false]),(rb,91,#[.slice none 0 0,.slice none 0 0,.bool false]),(pb,91,#[.slice A l.length c,.slice (some ⟨ad,off,none⟩) (m + 1) d,.bool true])] ∧ LI.length + m ≤ 100000 ∧ X = Trie.kidsGa (Trie.gathW (coverW (Nib.of f) (Nib.of e) e) f e n) K (Trie.kidAt (k,p,v,K) pl) 16 (LI,left))
     case first =>
      by_cases hv : v = []
      ·subst hv
       rw [HO.out,if_pos rfl] at HX
       rw [if_neg (by simp)] at HX
       have HNL : Hid (l.length + m ≤ 100000):=Lib.hid (by have:=HLn.out; omega)
       clear HO HBad HF0
       go_wp2_with fail
       go_meet
       exact ⟨A6,c6,l,rfl,O6.out,F6.out,HNL.out,HX.out⟩
      ·have ne1 : (v.toArray = #[]) = False:=by simp [hv]
       have ne2 : v.isEmpty = false:=by simp [hv]
       rw [ne2,Bool.not_false]
       rw [HO.out,if_neg hv] at HX
       have hpq : (pl ++ p).length ≤ 1048576:=by rw [List.length_append]; have:=HPl.out.2; omega
       have HKey:=Lib.hid (fun W=>refnib_Key (pl ++ p) W hpq)
       have Hkl:=Lib.hid (key_len (s:=pl ++ p))
       have Hig : Hid (Trie.itemGa f e (pl ++ p) v l = if (Nib.key (pl ++ p)).2 ≠ 0 ∨ (Nib.key (pl ++ p)).1 = [] ∨ 16 < (pl ++ p).length then (false,l) else (true,if Trie.inK f e (Nib.key (pl ++ p)).1 = true then l ++ [((Nib.key (pl ++ p)).1,v)] else l)):=Lib.hid rfl
       generalize Nib.key (pl ++ p) = ky at *
       obtain ⟨kb,kc⟩:=ky
       have Hkl : Hid (kc = 0 → (pl ++ p).length = 2 * kb.length):=Hkl
       have Hig : Hid (Trie.itemGa f e (pl ++ p) v l = if kc ≠ 0 ∨ kb = [] ∨ 16 < (pl ++ p).length then (false,l) else (true,if Trie.inK f e kb = true then l ++ [(kb,v)] else l)):=Hig
       have Hpq:=Lib.hid hpq
       clear HO hv hpq
       have n1 : w6.cell? ⟨nb,1,none⟩ = some (.string ⟨p.toArray⟩):=F6.out.cell 0 1 rfl rfl
       go_wp2_with fail
       refine (HKey.out _).mono ?_
       rintro q w7 ⟨rfl,hb⟩
       have F7:=Live.hb F6 hb
       have O7:=Lib.hid (own_below O6.out hb)
       clear hb F6 O6 HKey n0 n1
       by_cases hkc : kc = 0
       ·subst hkc
        have hkb : kb.length ≤ 9223372036854775807:=by have:=Hkl.out rfl; have:=Hpq.out; omega
        have HKd:=Lib.hid (fun W=>ref10_Keyed kb hkb W)
        have Hiff : Hid (Trie.keyedW kb = true ↔ ¬ ((0 : Nat) ≠ 0 ∨ kb = [] ∨ 16 < (pl ++ p).length)):=Lib.hid (by
         have hkl:=Hkl.out rfl
         simp only [Trie.keyedW,Bool.and_eq_true,decide_eq_true_eq,ne_eq,not_true_eq_false,false_or,not_or,Bool.not_eq_true',List.isEmpty_eq_false_iff]
         constructor
         ·rintro ⟨h1,h2⟩; exact ⟨h1,by omega⟩
         ·rintro ⟨h1,h2⟩; exact ⟨h1,by omega⟩)
        have Hkk : Hid (∃ b,Trie.keyedW kb = b):=Lib.hid ⟨_,rfl⟩
        obtain ⟨kk,hkk⟩:=Hkk.out
        rw [hkk] at HKd
        have HkkE:=Lib.hid hkk
        clear hkk Hkk hkb
        go_wp2_with fail
        refine (HKd.out _).mono ?_
        rintro q w7' ⟨rfl,rfl⟩
        clear HKd
        cases kk with
        | true =>
         have HIn:=Lib.hid (fun W=>ref11_In W kb f e)
         have Hig2:=Lib.hid (Hig.out.trans (if_neg (Hiff.out.1 HkkE.out)))
         have HX:=Lib.hid (by have:=HX.out; rw [Hig2.out,if_neg (by simp)] at this; exact this)
         clear Hig Hig2 Hiff HkkE Hkl Hpq HBad HF0
         have Hin0 : Hid (∃ b,Trie.inK f e kb = b):=Lib.hid ⟨_,rfl⟩
         obtain ⟨ib,hin⟩:=Hin0.out
         rw [hin] at HX HIn
         clear hin Hin0
         go_wp2_with fail
         refine (HIn.out _).mono ?_
         rintro q w8 ⟨rfl,hb⟩
         have F8:=Live.hb F7 hb
         have O8:=Lib.hid (own_below O7.out hb)
         clear hb F7 O7 HIn
         have n2 : w8.cell? ⟨nb,2,none⟩ = some (.string ⟨v.toArray⟩):=F8.out.cell 0 2 rfl rfl
         cases ib with
         | true =>
          rw [if_pos rfl] at HX
          have HNL : Hid ((l ++ [(kb,v)]).length + m ≤ 100000):=Lib.hid (by rw [List.length_append,List.length_cons,List.length_nil]; have:=HLn.out; omega)
          have HSR : Hid (icells l ++ [.string ⟨kb.toArray⟩,.string ⟨v.toArray⟩] = icells (l ++ [(kb,v)])):=Lib.hid (by rw [icells_append]; rfl)
          go_wp2_with (first
           | (at_builtin; refine wpList_append_new w8 77 [.string ⟨kb.toArray⟩,.string ⟨v.toArray⟩] rfl _ _ 24 rfl w.heap.size 2 32 _ info_item Tryz.underlying24 rfl (by decide) (.slice A6 l.length c6) l.length (icells l) rfl O8.out 1 1 rfl rfl (by simp [Value.oneCell']) (by simp only [maxLen]; omega) (by omega) w.heap.size w F8.out.b (Nat.le_refl _) F8.out.b.size ?_; intro v9 w9 own9 hb9 hg9 _ _; obtain ⟨A9,c9,rfl,_,_,_⟩:=own_form own9; have F9:=Live.hp F8 O8.out (Nat.le_refl _) (by simp) hg9; have O9 : Hid (w9.ownsRow w.heap.size 77 2 (.slice A9 (l.length + 1) c9) (l.length + 1) (icells (l ++ [(kb,v)]))):=Lib.hid (by rw [← HSR.out]; exact own9); clear own9 hb9 hg9)
           | fail)
          go_meet
          exact ⟨A9,c9,l ++ [(kb,v)],by simp,by rw [List.length_append]; exact O9.out,F9.out,HNL.out,HX.out⟩
         | false =>
          rw [if_neg (by simp)] at HX
          have HNL : Hid (l.length + m ≤ 100000):=Lib.hid (by have:=HLn.out; omega)
          clear n2
          go_wp2_with fail
          go_meet
          exact ⟨A6,c6,l,rfl,O8.out,F8.out,HNL.out,HX.out⟩
        | false =>
         have HF1 : Hid (X.1 = false):=Lib.hid (by
          have hig:=Hig.out
          rw [if_pos (Decidable.not_not.1 (fun h=>by have:=Hiff.out.2 h; rw [HkkE.out] at this; cases this))] at hig
          rw [HX.out,hig,if_pos rfl])
         clear Hig Hiff HkkE Hkl Hpq HX HP HIH HCut HL1 HF0 O7
         have z0 : w7.cell? ⟨bb,0,none⟩ = some (.slice none 0 0):=F7.out.cell 1 0 rfl rfl
         have z1 : w7.cell? ⟨bb,1,none⟩ = some (.slice none 0 0):=F7.out.cell 1 1 rfl rfl
         have z2 : w7.cell? ⟨bb,2,none⟩ = some (.bool false):=F7.out.cell 1 2 rfl rfl
         have y0 : w7.cell? ⟨rb,0,none⟩ = some (.slice none 0 0):=F7.out.cell 2 0 rfl rfl
         have y1 : w7.cell? ⟨rb,1,none⟩ = some (.slice none 0 0):=F7.out.cell 2 1 rfl rfl
         have y2 : w7.cell? ⟨rb,2,none⟩ = some (.bool false):=F7.out.cell 2 2 rfl rfl
         have g0:=F7.out.frozen 2 0 rfl
         have g1:=F7.out.frozen 2 1 rfl
         have g2:=F7.out.frozen 2 2 rfl
         go_wp2_with fail
         obtain ⟨t1,t2⟩:=part_stored (F7.out.blk 2 rfl) F7.out.b (F7.out.own 2 rfl) (.slice none 0 0) (.slice none 0 0) (.bool false)
         have hres:=HBad.out _ HF1.out t2
         have ld:=run_load_part (cs := [.slice none 0 0,.slice none 0 0,.bool false]) t1 rfl
         clear t1 t2
         generalize ((w7.setCell ⟨rb,0,none⟩ (.slice none 0 0)).setCell ⟨rb,1,none⟩ (.slice none 0 0)).setCell ⟨rb,2,none⟩ (.bool false) = WF at *
         exact bodyPost_ret (v:=.agg #[.slice none 0 0,.slice none 0 0,.bool false]) (results_cell1 rfl rfl ld) rfl hres
       ·have HF1 : Hid (X.1 = false):=Lib.hid (by
         have hig:=Hig.out
         rw [if_pos (.inl hkc)] at hig
         rw [HX.out,hig,if_pos rfl])
        have hkI : ((kc : Int) == 0) = false:=by simp; exact hkc
        have hkI2 : ((kc : Int) != 0) = true:=by simp; exact hkc
        clear Hig Hkl Hpq HX HP HIH HCut HL1 hkc HF0 O7
        have z0 : w7.cell? ⟨bb,0,none⟩ = some (.slice none 0 0):=F7.out.cell 1 0 rfl rfl
        have z1 : w7.cell? ⟨bb,1,none⟩ = some (.slice none 0 0):=F7.out.cell 1 1 rfl rfl
        have z2 : w7.cell? ⟨bb,2,none⟩ = some (.bool false):=F7.out.cell 1 2 rfl rfl
        have y0 : w7.cell? ⟨rb,0,none⟩ = some (.slice none 0 0):=F7.out.cell 2 0 rfl rfl
        have y1 : w7.cell? ⟨rb,1,none⟩ = some (.slice none 0 0):=F7.out.cell 2 1 rfl rfl
        have y2 : w7.cell? ⟨rb,2,none⟩ = some (.bool false):=F7.out.cell 2 2 rfl rfl
        have g0:=F7.out.frozen 2 0 rfl
        have g1:=F7.out.frozen 2 1 rfl
        have g2:=F7.out.frozen 2 2 rfl
        go_wp2_with fail
        obtain ⟨t1,t2⟩:=part_stored (F7.out.blk 2 rfl) F7.out.b (F7.out.own 2 rfl) (.slice none 0 0) (.slice none 0 0) (.bool false)
        have hres:=HBad.out _ HF1.out t2
        have ld:=run_load_part (cs := [.slice none 0 0,.slice none 0 0,.bool false]) t1 rfl
        clear t1 t2
        generalize ((w7.setCell ⟨rb,0,none⟩ (.slice none 0 0)).setCell ⟨rb,1,none⟩ (.slice none 0 0)).setCell ⟨rb,2,none⟩ (.bool false) = WF at *
        exact bodyPost_ret (v:=.agg #[.slice none 0 0,.slice none 0 0,.bool false]) (results_cell1 rfl rfl ld) rfl hres
     case rest =>
      obtain ⟨A7,c7,LI,rfl,own7,live7,hnl7,hx7⟩:=hcut
      have O7:=Lib.hid own7
      have F7:=Lib.hid live7
      have HNL:=Lib.hid hnl7
      have HX:=Lib.hid hx7
      clear own7 live7 hnl7 hx7 HO HBad HF0 F6 O6 n0
      have k3_0 : wc.cell? ⟨pb,0,none⟩ = some (.slice A l.length c):=F7.out.cell 3 0 rfl rfl; have k3_1 : wc.cell? ⟨pb,1,none⟩ = some (.slice (some ⟨ad,off,none⟩) (m + 1) d):=F7.out.cell 3 1 rfl rfl; have k3_2 : wc.cell? ⟨pb,2,none⟩ = some (.bool true):=F7.out.cell 3 2 rfl rfl
      have hcut:=HCut.out
      go_upto_region 18 with fail
      clear k3_0 k3_1 k3_2 hcut
      have FY:=Live.ha F7 #[.slice A7 LI.length c7,.slice B1 m d1,.bool true] 91
      have BXY : Hid (Below wc.heap.size wc (World.alloc wc (.cells #[.slice A7 LI.length c7,.slice B1 m d1,.bool true] 91))):=Lib.hid ((Below.refl _ wc).alloc (Nat.le_refl _) _)
      have OB1 : Hid (∀ a,A7 = some a → w.heap.size ≤ a.block ∧ a.block < wc.heap.size ∧ a.block ≠ rb):=Lib.hid (fun a ha=>by
       have e:=own_at_block O7.out a ha
       have e1:=O7.out.lt _ e
       have e2:=own_blk_ne O7.out (F7.out.blk 2 rfl) (by decide)
       exact ⟨e1.1,e1.2,fun h=>e2 (by rw [e,h])⟩)
      have HRBlt:=Lib.hid (F7.out.own 2 rfl)
      have HRBl2:=Lib.hid (F7.out.lt 2 rfl)
      generalize World.alloc wc _ = WY at FY BXY ⊢
      obtain ⟨ob,hob⟩ : ∃ ob,wc.heap.size = ob:=⟨_,rfl⟩
      rw [hob] at FY OB1 HRBl2 ⊢
      have BobY : Hid (wc.heap.size ≤ ob ∧ w.heap.size ≤ ob):=Lib.hid ⟨by omega,by rw [← hob]; exact F7.out.b.size⟩
      have PY : PartC (fun b=>(ok b ∧ b ≠ rb) ∧ b ≠ ob) WY (true,(LI,left)) #[.slice A7 LI.length c7,.slice B1 m d1,.bool true]:=by
       have h1:=HL1.out
       have hnx : (LI).length = LI.length:=rfl
       refine .inl ⟨rfl,A7,c7,B1,d1,by simp only; rw [hnx,h1.2.1], ?_,(h1.1.below FY.out.b).more FY.out.b.size,by simp only; rw [h1.2.1]; exact h1.2.2.1,fun a ha => ?_,fun a ha => ?_⟩
       ·have:=own_below O7.out BXY.out
        have:=Reads.of_own this
        simp only
        rw [hnx]
        exact this
       ·have:=OB1.out a ha
        exact ⟨⟨HOK.out.1 _ this.1,this.2.2⟩,by omega⟩
       ·have:=h1.2.2.2 a ha
        have:=HRBlt.out
        have:=BobY.out
        exact ⟨⟨(h1.2.2.2 a ha).1,by omega⟩,by omega⟩
      have HIH2 : Hid (∀ (i : Nat) (r : Bool × Trie.Gst) (cs : Array Value) (W : World),i < 16 → K.getD i [] ≠ [] → Trie.Sz (LI,left) r.2 → Below w.heap.size w W → ob < W.heap.size → PartC (fun b=>(ok b ∧ b ≠ rb) ∧ b ≠ ob) W r cs → Calls Tryz.prog 41 #[.agg cs,.string ⟨(K.getD i []).toArray⟩,.string ⟨(Trie.kidAt (k,p,v,K) pl i).toArray⟩,.string ⟨f.toArray⟩,.string ⟨e.toArray⟩] W (PartEnd (fun b=>(ok b ∧ b ≠ rb) ∧ b ≠ ob) W (Trie.stepS (Trie.gathW (coverW (Nib.of f) (Nib.of e) e) f e n) (K.getD i []) (Trie.kidAt (k,p,v,K) pl i) r))):=Lib.hid (fun i r cs W _ _ hs hW hlt hP=>by
       have h1:=HL1.out
       have h2:=HLn.out
       have h3 : (LI).length = LI.length:=rfl
       have h4:=HPl.out.2
       have h5:=hs.left
       have h6:=hs.both
       have h7:=HNL.out
       simp only at h5 h6
       refine HIH.out _ r cs W _ _ (by omega) (by omega) (fun y hy=>h2.2.2.1 y (hs.mem y hy)) ?_ hP (fun b hb => ?_)
       ·have : (Trie.kidAt (k,p,v,K) pl i).length ≤ pl.length + 16:=by unfold Trie.kidAt; split <;> simp <;> omega
        omega
       ·have:=HRBl2.out
        have:=hW.size
        exact ⟨⟨HOK.out.1 b (by omega),by omega⟩,by omega⟩)
      have PYH:=Lib.hid PY
      clear PY O7 OB1 BXY F7
      go_wp2_with fail
      refine gatherR_loop w (fun b=>ok b ∧ b ≠ rb) f e _ (fun s p st=>Trie.gathW_sz _ f e n s p st) nb ob rb k p v K HKK.out pl HPl.out.1 HPl.out.2 (LI,left) _ _ _ _ _ FY.out PYH.out (fun i r cs W h1 h2 h3 h4 h5 h6=>HIH2.out i r cs W h1 h2 h3 h4 h5 h6) _ ?_ _ _ _ _ _ _ _ _ _ _ _ _ _ _ _ _ _ _ _ _ _ _ _ _ _ _ _ _ _ _ _ _ _ _ _ _ _ _ _ _ _ _ _ _ _ _ _ _ _ _ _ _ _ _ _ _ _ _ _ _ _ _ _ _ _ _ _ _ _ _ _ _ _ _ _ _ _ _ _ _ _ _ _ _ _ _ _ _ _ _ _ _ _ _ _ _ _ _ _ _ _ _ _ _ _ _ _ _ _ _ _ _ _ _ _ _ _ _ _ _ _
      intro s0 s1 s2 s3 s4 s5 s6 s7 s8 s9 s11 s12 s13 s14 s15 s16 s18 s19 s20 s21 s22 s23 s24 s25 s26 s27 s28 s29 s30 s31 s32 s33 s34 s35 s36 s37 s38 s39 s40 s41 s42 s43 s44 s45 s46 s47 s48 s49 s50 s51 s52 s53 s54 s55 s56 s57 s58 s59 s60 s61 s62 s63 s64 s65 s66 s67 s68 s69 s70 s71 s72 s73 s74 s75 s76 s77 s78 s79 s80 s81 s82 s83 s84 s85 s86 s87 s88 s89 s90 s91 s92 s93 s94 s95 s96 s97 s98 s99 s100 s101 s102 s103 s104 s105 s106 s107 s108 s109 s110 s111 s112 s113 s114 s115 s116 s117 s118 s119 s120 s121 s122 s123 s124 s125 s126 s127 x9 y9 z9 W9 hL9 hP9
      have F9:=Lib.hid hL9
      have P9:=Lib.hid hP9
      clear hL9
      rcases hP9 with ⟨-,A9,c9,B9,d9,he9, -⟩ | ⟨-,he9⟩
      ·simp only [Array.mk.injEq,List.cons.injEq,and_true] at he9
       obtain ⟨rfl,rfl,rfl⟩:=he9
       generalize (Trie.kidsGa (Trie.gathW (coverW (Nib.of f) (Nib.of e) e) f e n) K (Trie.kidAt (k,p,v,K) pl) 16 (LI,left)) = RR at *
       have k0_0 : W9.cell? ⟨ob,0,none⟩ = some ((.slice A9 RR.2.1.length c9)):=F9.out.cell 0 0 rfl rfl; have k0_1 : W9.cell? ⟨ob,1,none⟩ = some ((.slice B9 RR.2.2.length d9)):=F9.out.cell 0 1 rfl rfl; have k0_2 : W9.cell? ⟨ob,2,none⟩ = some ((.bool true)):=F9.out.cell 0 2 rfl rfl
       have k3_0 : W9.cell? ⟨rb,0,none⟩ = some (.slice none 0 0):=F9.out.cell 3 0 rfl rfl; have k3_1 : W9.cell? ⟨rb,1,none⟩ = some (.slice none 0 0):=F9.out.cell 3 1 rfl rfl; have k3_2 : W9.cell? ⟨rb,2,none⟩ = some (.bool false):=F9.out.cell 3 2 rfl rfl
       have f3_0 : W9.frozen? ⟨rb,0,none⟩ = false:=F9.out.frozen 3 0 rfl; have f3_1 : W9.frozen? ⟨rb,1,none⟩ = false:=F9.out.frozen 3 1 rfl; have f3_2 : W9.frozen? ⟨rb,2,none⟩ = false:=F9.out.frozen 3 2 rfl
       go_wp2_with fail
       obtain ⟨t1,t2⟩:=part_stored (F9.out.blk 3 rfl) F9.out.b (F9.out.own 3 rfl) (.slice A9 RR.2.1.length c9) (.slice B9 RR.2.2.length d9) (.bool true)
       have hres:=HP.out _ _ _ HX.out (((P9.out.weak (ok':=fun b=>ok b ∧ b ≠ rb) (fun b h=>h.1)).put3 (.slice A9 RR.2.1.length c9) (.slice B9 RR.2.2.length d9) (.bool true)).weak (ok':=ok) (fun b h=>h.1)) t2
       have ld:=run_load_part (cs := [(.slice A9 RR.2.1.length c9),(.slice B9 RR.2.2.length d9),(.bool true)]) t1 rfl
       clear t1 t2 P9 F9
       generalize ((W9.setCell ⟨rb,0,none⟩ (.slice A9 RR.2.1.length c9)).setCell ⟨rb,1,none⟩ (.slice B9 RR.2.2.length d9)).setCell ⟨rb,2,none⟩ (.bool true) = WF at *
       exact bodyPost_ret (v:=.agg #[(.slice A9 RR.2.1.length c9),(.slice B9 RR.2.2.length d9),(.bool true)]) (results_cell1 rfl rfl ld) rfl hres
      ·simp only [Array.mk.injEq,List.cons.injEq,and_true] at he9
       obtain ⟨rfl,rfl,rfl⟩:=he9
       have k0_0 : W9.cell? ⟨ob,0,none⟩ = some ((.slice none 0 0)):=F9.out.cell 0 0 rfl rfl; have k0_1 : W9.cell? ⟨ob,1,none⟩ = some ((.slice none 0 0)):=F9.out.cell 0 1 rfl rfl; have k0_2 : W9.cell? ⟨ob,2,none⟩ = some ((.bool false)):=F9.out.cell 0 2 rfl rfl
       have k3_0 : W9.cell? ⟨rb,0,none⟩ = some (.slice none 0 0):=F9.out.cell 3 0 rfl rfl; have k3_1 : W9.cell? ⟨rb,1,none⟩ = some (.slice none 0 0):=F9.out.cell 3 1 rfl rfl; have k3_2 : W9.cell? ⟨rb,2,none⟩ = some (.bool false):=F9.out.cell 3 2 rfl rfl
       have f3_0 : W9.frozen? ⟨rb,0,none⟩ = false:=F9.out.frozen 3 0 rfl; have f3_1 : W9.frozen? ⟨rb,1,none⟩ = false:=F9.out.frozen 3 1 rfl; have f3_2 : W9.frozen? ⟨rb,2,none⟩ = false:=F9.out.frozen 3 2 rfl
       go_wp2_with fail
       obtain ⟨t1,t2⟩:=part_stored (F9.out.blk 3 rfl) F9.out.b (F9.out.own 3 rfl) (.slice none 0 0) (.slice none 0 0) (.bool false)
       have hres:=HP.out _ _ _ HX.out (((P9.out.weak (ok':=fun b=>ok b ∧ b ≠ rb) (fun b h=>h.1)).put3 (.slice none 0 0) (.slice none 0 0) (.bool false)).weak (ok':=ok) (fun b h=>h.1)) t2
       have ld:=run_load_part (cs := [(.slice none 0 0),(.slice none 0 0),(.bool false)]) t1 rfl
       clear t1 t2 P9 F9
       generalize ((W9.setCell ⟨rb,0,none⟩ (.slice none 0 0)).setCell ⟨rb,1,none⟩ (.slice none 0 0)).setCell ⟨rb,2,none⟩ (.bool false) = WF at *
       exact bodyPost_ret (v:=.agg #[(.slice none 0 0),(.slice none 0 0),(.bool false)]) (results_cell1 rfl rfl ld) rfl hres
    ·have hdI : ((dc : Int) == 0) = false:=by simp; exact hdc
     have HF1 : Hid (X.1 = false):=Lib.hid (by rw [HX.out,if_pos (.inr hdc)])
     clear hdc HX HP HIH HCut HL1 HLn
     go_enter Tryz.func41,Tryz.ntmps41
     go_upto_region 1 with fail
     have F00:=Live.ha (Lib.hid (Live.start w)) #[(.slice A l.length c),(.slice (some ⟨ad,off,none⟩) (m + 1) d),(.bool true)] 91
     have F01:=Live.ha F00 #[.slice none 0 0,.slice none 0 0,.bool false] 91
     rw [show (w.alloc (.cells #[(.slice A l.length c),(.slice (some ⟨ad,off,none⟩) (m + 1) d),(.bool true)] 91)).heap.size = w.heap.size + 1 from by show (w.heap.push _).size = _; exact Array.size_push _] at F01
     generalize (w.alloc (.cells #[(.slice A l.length c),(.slice (some ⟨ad,off,none⟩) (m + 1) d),(.bool true)] 91)).alloc (.cells #[.slice none 0 0,.slice none 0 0,.bool false] 91) = W0 at F01 ⊢
     clear F00
     obtain ⟨rb,hrb⟩ : ∃ rb,w.heap.size + 1 = rb:=⟨_,rfl⟩
     obtain ⟨pb,hpb⟩ : ∃ pb,w.heap.size = pb:=⟨_,rfl⟩
     have F0 : Hid (Live w W0 [(rb,91,#[.slice none 0 0,.slice none 0 0,.bool false]),(pb,91,#[(.slice A l.length c),(.slice (some ⟨ad,off,none⟩) (m + 1) d),(.bool true)])]):=by rw [← hrb,← hpb]; exact F01
     rw [hrb,hpb]
     clear F01 hrb hpb
     have k0_0 : W0.cell? ⟨rb,0,none⟩ = some (.slice none 0 0):=F0.out.cell 0 0 rfl rfl; have k0_1 : W0.cell? ⟨rb,1,none⟩ = some (.slice none 0 0):=F0.out.cell 0 1 rfl rfl; have k0_2 : W0.cell? ⟨rb,2,none⟩ = some (.bool false):=F0.out.cell 0 2 rfl rfl
     have f0_0 : W0.frozen? ⟨rb,0,none⟩ = false:=F0.out.frozen 0 0 rfl; have f0_1 : W0.frozen? ⟨rb,1,none⟩ = false:=F0.out.frozen 0 1 rfl; have f0_2 : W0.frozen? ⟨rb,2,none⟩ = false:=F0.out.frozen 0 2 rfl
     have k1_0 : W0.cell? ⟨pb,0,none⟩ = some ((.slice A l.length c)):=F0.out.cell 1 0 rfl rfl; have k1_1 : W0.cell? ⟨pb,1,none⟩ = some ((.slice (some ⟨ad,off,none⟩) (m + 1) d)):=F0.out.cell 1 1 rfl rfl; have k1_2 : W0.cell? ⟨pb,2,none⟩ = some ((.bool true)):=F0.out.cell 1 2 rfl rfl
     go_wp2_with fail
     refine (HM.out _).mono ?_
     rintro q w1 ⟨rfl,hb⟩
     have F1:=Live.hb F0 hb
     clear hb F0 HM k0_0 k0_1 k0_2 f0_0 f0_1 f0_2 k1_0 k1_1 k1_2
     have k1_0 : w1.cell? ⟨pb,0,none⟩ = some (.slice A l.length c):=F1.out.cell 1 0 rfl rfl; have k1_1 : w1.cell? ⟨pb,1,none⟩ = some (.slice (some ⟨ad,off,none⟩) (m + 1) d):=F1.out.cell 1 1 rfl rfl; have k1_2 : w1.cell? ⟨pb,2,none⟩ = some (.bool true):=F1.out.cell 1 2 rfl rfl
     have k0_0 : w1.cell? ⟨rb,0,none⟩ = some (.slice none 0 0):=F1.out.cell 0 0 rfl rfl; have k0_1 : w1.cell? ⟨rb,1,none⟩ = some (.slice none 0 0):=F1.out.cell 0 1 rfl rfl; have k0_2 : w1.cell? ⟨rb,2,none⟩ = some (.bool false):=F1.out.cell 0 2 rfl rfl
     have f0_0 : w1.frozen? ⟨rb,0,none⟩ = false:=F1.out.frozen 0 0 rfl; have f0_1 : w1.frozen? ⟨rb,1,none⟩ = false:=F1.out.frozen 0 1 rfl; have f0_2 : w1.frozen? ⟨rb,2,none⟩ = false:=F1.out.frozen 0 2 rfl
     go_upto_region 4 with fail
     have F2:=Live.ha F1 #[.slice none 0 0,.slice none 0 0,.bool false] 91
     clear k0_0 k0_1 k0_2 f0_0 f0_1 f0_2 k1_0 k1_1 k1_2
     have B12 : Hid (Below w1.heap.size w1 (World.alloc w1 (.cells #[.slice none 0 0,.slice none 0 0,.bool false] 91))):=Lib.hid ((Below.refl _ w1).alloc (Nat.le_refl _) _)
     generalize World.alloc w1 _ = W2 at F2 B12 ⊢
     generalize w1.heap.size = bb at F2 ⊢
     clear F1
     have k2_0 : W2.cell? ⟨pb,0,none⟩ = some (.slice A l.length c):=F2.out.cell 2 0 rfl rfl; have k2_1 : W2.cell? ⟨pb,1,none⟩ = some (.slice (some ⟨ad,off,none⟩) (m + 1) d):=F2.out.cell 2 1 rfl rfl; have k2_2 : W2.cell? ⟨pb,2,none⟩ = some (.bool true):=F2.out.cell 2 2 rfl rfl
     have r0:=HCell.out _ F2.out.b
     go_wp2_with fail
     refine (HTag.out _).mono ?_
     rintro q w3 ⟨rfl,hb⟩
     have F3:=Live.hb F2 hb
     clear hb F2 HTag k2_0 k2_1 k2_2 r0
     have k2_0 : w3.cell? ⟨pb,0,none⟩ = some (.slice A l.length c):=F3.out.cell 2 0 rfl rfl; have k2_1 : w3.cell? ⟨pb,1,none⟩ = some (.slice (some ⟨ad,off,none⟩) (m + 1) d):=F3.out.cell 2 1 rfl rfl; have k2_2 : w3.cell? ⟨pb,2,none⟩ = some (.bool true):=F3.out.cell 2 2 rfl rfl
     have r0:=HCell.out _ F3.out.b
     go_wp2_with fail
     refine (HDec.out _).mono ?_
     rintro q w4 ⟨rfl,hb⟩
     have F4:=Live.ha (Live.hb F3 hb) #[.int .i64 0,.string ⟨#[]⟩,.string ⟨#[]⟩,.string ⟨#[]⟩,.string ⟨#[]⟩,.string ⟨#[]⟩,.string ⟨#[]⟩,.string ⟨#[]⟩,.string ⟨#[]⟩,.string ⟨#[]⟩,.string ⟨#[]⟩,.string ⟨#[]⟩,.string ⟨#[]⟩,.string ⟨#[]⟩,.string ⟨#[]⟩,.string ⟨#[]⟩,.string ⟨#[]⟩,.string ⟨#[]⟩,.string ⟨#[]⟩] 117
     clear hb k2_0 k2_1 k2_2 r0 HDec
     have TH : (w4.alloc (.cells #[.int .i64 0,.string ⟨#[]⟩,.string ⟨#[]⟩,.string ⟨#[]⟩,.string ⟨#[]⟩,.string ⟨#[]⟩,.string ⟨#[]⟩,.string ⟨#[]⟩,.string ⟨#[]⟩,.string ⟨#[]⟩,.string ⟨#[]⟩,.string ⟨#[]⟩,.string ⟨#[]⟩,.string ⟨#[]⟩,.string ⟨#[]⟩,.string ⟨#[]⟩,.string ⟨#[]⟩,.string ⟨#[]⟩,.string ⟨#[]⟩] 117)).there w4.heap.size 0 (nodeV k p v K).toArray.size:=by
      rw [show (nodeV k p v K).toArray.size = 19 by rw [List.size_toArray]; exact HSz.out]
      exact F4.out.there 0 19 rfl (by decide)
     go_upto_region 7 with ((with_reducible refine at_put 52 ?_); refine wpList_store_mid rfl 117 _ _ rfl w4.heap.size 0 (nodeV k p v K).toArray rfl rfl TH SZ HON ?_)
     have F5:=Live.hall F4 0 (nodeV k p v K).toArray.toList rfl HSz.out.symm
     generalize World.setCells _ w4.heap.size 0 _ = W5 at F5 ⊢
     generalize w4.heap.size = nb at F5 ⊢
     clear TH F4 F3
     have z0 : W5.cell? ⟨bb,0,none⟩ = some (.slice none 0 0):=F5.out.cell 1 0 rfl rfl
     have z1 : W5.cell? ⟨bb,1,none⟩ = some (.slice none 0 0):=F5.out.cell 1 1 rfl rfl
     have z2 : W5.cell? ⟨bb,2,none⟩ = some (.bool false):=F5.out.cell 1 2 rfl rfl
     have y0 : W5.cell? ⟨rb,0,none⟩ = some (.slice none 0 0):=F5.out.cell 2 0 rfl rfl
     have y1 : W5.cell? ⟨rb,1,none⟩ = some (.slice none 0 0):=F5.out.cell 2 1 rfl rfl
     have y2 : W5.cell? ⟨rb,2,none⟩ = some (.bool false):=F5.out.cell 2 2 rfl rfl
     have g0:=F5.out.frozen 2 0 rfl
     have g1:=F5.out.frozen 2 1 rfl
     have g2:=F5.out.frozen 2 2 rfl
     go_wp2_with fail
     obtain ⟨t1,t2⟩:=part_stored (F5.out.blk 2 rfl) F5.out.b (F5.out.own 2 rfl) (.slice none 0 0) (.slice none 0 0) (.bool false)
     have hres:=HBad.out _ HF1.out t2
     have ld:=run_load_part (cs := [.slice none 0 0,.slice none 0 0,.bool false]) t1 rfl
     clear t1 t2
     generalize ((W5.setCell ⟨rb,0,none⟩ (.slice none 0 0)).setCell ⟨rb,1,none⟩ (.slice none 0 0)).setCell ⟨rb,2,none⟩ (.bool false) = WF at *
     exact bodyPost_ret (v:=.agg #[.slice none 0 0,.slice none 0 0,.bool false]) (results_cell1 rfl rfl ld) rfl hres
   ·have hs1 : (sm == sum) = false:=by simp [hse]
    have HF1 : Hid (X.1 = false):=Lib.hid (by rw [HX.out,if_pos (.inl hse)])
    clear hse HX HP HIH HCut HL1 HLn
    go_enter Tryz.func41,Tryz.ntmps41
    go_upto_region 1 with fail
    have F00:=Live.ha (Lib.hid (Live.start w)) #[(.slice A l.length c),(.slice (some ⟨ad,off,none⟩) (m + 1) d),(.bool true)] 91
    have F01:=Live.ha F00 #[.slice none 0 0,.slice none 0 0,.bool false] 91
    rw [show (w.alloc (.cells #[(.slice A l.length c),(.slice (some ⟨ad,off,none⟩) (m + 1) d),(.bool true)] 91)).heap.size = w.heap.size + 1 from by show (w.heap.push _).size = _; exact Array.size_push _] at F01
    generalize (w.alloc (.cells #[(.slice A l.length c),(.slice (some ⟨ad,off,none⟩) (m + 1) d),(.bool true)] 91)).alloc (.cells #[.slice none 0 0,.slice none 0 0,.bool false] 91) = W0 at F01 ⊢
    clear F00
    obtain ⟨rb,hrb⟩ : ∃ rb,w.heap.size + 1 = rb:=⟨_,rfl⟩
    obtain ⟨pb,hpb⟩ : ∃ pb,w.heap.size = pb:=⟨_,rfl⟩
    have F0 : Hid (Live w W0 [(rb,91,#[.slice none 0 0,.slice none 0 0,.bool false]),(pb,91,#[(.slice A l.length c),(.slice (some ⟨ad,off,none⟩) (m + 1) d),(.bool true)])]):=by rw [← hrb,← hpb]; exact F01
    rw [hrb,hpb]
    clear F01 hrb hpb
    have k0_0 : W0.cell? ⟨rb,0,none⟩ = some (.slice none 0 0):=F0.out.cell 0 0 rfl rfl; have k0_1 : W0.cell? ⟨rb,1,none⟩ = some (.slice none 0 0):=F0.out.cell 0 1 rfl rfl; have k0_2 : W0.cell? ⟨rb,2,none⟩ = some (.bool false):=F0.out.cell 0 2 rfl rfl
    have f0_0 : W0.frozen? ⟨rb,0,none⟩ = false:=F0.out.frozen 0 0 rfl; have f0_1 : W0.frozen? ⟨rb,1,none⟩ = false:=F0.out.frozen 0 1 rfl; have f0_2 : W0.frozen? ⟨rb,2,none⟩ = false:=F0.out.frozen 0 2 rfl
    have k1_0 : W0.cell? ⟨pb,0,none⟩ = some ((.slice A l.length c)):=F0.out.cell 1 0 rfl rfl; have k1_1 : W0.cell? ⟨pb,1,none⟩ = some ((.slice (some ⟨ad,off,none⟩) (m + 1) d)):=F0.out.cell 1 1 rfl rfl; have k1_2 : W0.cell? ⟨pb,2,none⟩ = some ((.bool true)):=F0.out.cell 1 2 rfl rfl
    go_wp2_with fail
    refine (HM.out _).mono ?_
    rintro q w1 ⟨rfl,hb⟩
    have F1:=Live.hb F0 hb
    clear hb F0 HM k0_0 k0_1 k0_2 f0_0 f0_1 f0_2 k1_0 k1_1 k1_2
    have k1_0 : w1.cell? ⟨pb,0,none⟩ = some (.slice A l.length c):=F1.out.cell 1 0 rfl rfl; have k1_1 : w1.cell? ⟨pb,1,none⟩ = some (.slice (some ⟨ad,off,none⟩) (m + 1) d):=F1.out.cell 1 1 rfl rfl; have k1_2 : w1.cell? ⟨pb,2,none⟩ = some (.bool true):=F1.out.cell 1 2 rfl rfl
    have k0_0 : w1.cell? ⟨rb,0,none⟩ = some (.slice none 0 0):=F1.out.cell 0 0 rfl rfl; have k0_1 : w1.cell? ⟨rb,1,none⟩ = some (.slice none 0 0):=F1.out.cell 0 1 rfl rfl; have k0_2 : w1.cell? ⟨rb,2,none⟩ = some (.bool false):=F1.out.cell 0 2 rfl rfl
    have f0_0 : w1.frozen? ⟨rb,0,none⟩ = false:=F1.out.frozen 0 0 rfl; have f0_1 : w1.frozen? ⟨rb,1,none⟩ = false:=F1.out.frozen 0 1 rfl; have f0_2 : w1.frozen? ⟨rb,2,none⟩ = false:=F1.out.frozen 0 2 rfl
    go_upto_region 4 with fail
    have F2:=Live.ha F1 #[.slice none 0 0,.slice none 0 0,.bool false] 91
    clear k0_0 k0_1 k0_2 f0_0 f0_1 f0_2 k1_0 k1_1 k1_2
    have B12 : Hid (Below w1.heap.size w1 (World.alloc w1 (.cells #[.slice none 0 0,.slice none 0 0,.bool false] 91))):=Lib.hid ((Below.refl _ w1).alloc (Nat.le_refl _) _)
    generalize World.alloc w1 _ = W2 at F2 B12 ⊢
    generalize w1.heap.size = bb at F2 ⊢
    clear F1
    have k2_0 : W2.cell? ⟨pb,0,none⟩ = some (.slice A l.length c):=F2.out.cell 2 0 rfl rfl; have k2_1 : W2.cell? ⟨pb,1,none⟩ = some (.slice (some ⟨ad,off,none⟩) (m + 1) d):=F2.out.cell 2 1 rfl rfl; have k2_2 : W2.cell? ⟨pb,2,none⟩ = some (.bool true):=F2.out.cell 2 2 rfl rfl
    have r0:=HCell.out _ F2.out.b
    go_wp2_with fail
    refine (HTag.out _).mono ?_
    rintro q w3 ⟨rfl,hb⟩
    have F3:=Live.hb F2 hb
    clear hb F2 HTag k2_0 k2_1 k2_2 r0
    have k2_0 : w3.cell? ⟨pb,0,none⟩ = some (.slice A l.length c):=F3.out.cell 2 0 rfl rfl; have k2_1 : w3.cell? ⟨pb,1,none⟩ = some (.slice (some ⟨ad,off,none⟩) (m + 1) d):=F3.out.cell 2 1 rfl rfl; have k2_2 : w3.cell? ⟨pb,2,none⟩ = some (.bool true):=F3.out.cell 2 2 rfl rfl
    have r0:=HCell.out _ F3.out.b
    have z0 : w3.cell? ⟨bb,0,none⟩ = some (.slice none 0 0):=F3.out.cell 0 0 rfl rfl
    have z1 : w3.cell? ⟨bb,1,none⟩ = some (.slice none 0 0):=F3.out.cell 0 1 rfl rfl
    have z2 : w3.cell? ⟨bb,2,none⟩ = some (.bool false):=F3.out.cell 0 2 rfl rfl
    have y0 : w3.cell? ⟨rb,0,none⟩ = some (.slice none 0 0):=F3.out.cell 1 0 rfl rfl
    have y1 : w3.cell? ⟨rb,1,none⟩ = some (.slice none 0 0):=F3.out.cell 1 1 rfl rfl
    have y2 : w3.cell? ⟨rb,2,none⟩ = some (.bool false):=F3.out.cell 1 2 rfl rfl
    have g0:=F3.out.frozen 1 0 rfl
    have g1:=F3.out.frozen 1 1 rfl
    have g2:=F3.out.frozen 1 2 rfl
    go_wp2_with fail
    obtain ⟨t1,t2⟩:=part_stored (F3.out.blk 1 rfl) F3.out.b (F3.out.own 1 rfl) (.slice none 0 0) (.slice none 0 0) (.bool false)
    have hres:=HBad.out _ HF1.out t2
    have ld:=run_load_part (cs := [.slice none 0 0,.slice none 0 0,.bool false]) t1 rfl
    clear t1 t2
    generalize ((w3.setCell ⟨rb,0,none⟩ (.slice none 0 0)).setCell ⟨rb,1,none⟩ (.slice none 0 0)).setCell ⟨rb,2,none⟩ (.bool false) = WF at *
    exact bodyPost_ret (v:=.agg #[.slice none 0 0,.slice none 0 0,.bool false]) (results_cell1 rfl rfl ld) rfl hres
end Go.Proofs.YtomnlhbioijfhaaGreatDoor
