import Derived.Test.YtomnlhbioijfhaaGreatDoorJ34
import Derived.Test.YtomnlhbioijfhaaGreatDoorJ27
set_option linter.unusedSimpArgs false
set_option linter.unusedVariables false
namespace Go.Proofs.YtomnlhbioijfhaaGreatDoor
open Go.RowKit Go.Instr
attribute [local go_sem] ba_get ByteArray.mk_append_mk
attribute [local go_sem ↓] Go.wp_at_zero Go.wp_at_succ
structure IAt (w : World) (A : Option Addr) (n c : Nat) (t : Trie.T) : Prop where
 hn : n = (Trie.itemsW t).length
 hc : n ≤ c
 ho : ∃ B,w.ownsRow B 77 2 (.slice A n c) n (icells (Trie.itemsW t))
theorem IAt.hr {w : World} {A : Option Addr} {n c : Nat} {t : Trie.T} (h : IAt w A n c t) : Reads w w.heap.size 2 A n (icells (Trie.itemsW t)):=by
 obtain ⟨B,h⟩:=h.ho
 exact Reads.of_own h
theorem IAt.next {w w' : World} {A : Option Addr} {n c : Nat} {t : Trie.T} (h : IAt w A n c t) (hb : Below w.heap.size w w') : IAt w' A n c t:=by
 obtain ⟨B,ho⟩:=h.ho
 exact ⟨h.hn,h.hc,⟨B,own_below ho hb⟩⟩
theorem IAt.grown {W W' : World} {A : Option Addr} {n c : Nat} {t : Trie.T} {g : Nat} (h : IAt W A n c t) (hg : W.grownBy W' (some g)) (hne : ∀ a,A = some a → a.block ≠ g) : IAt W' A n c t:=by
 obtain ⟨B,ho⟩:=h.ho
 refine ⟨h.hn,h.hc,⟨B,ho.kept hg ?_⟩⟩
 cases A with
 | none=>exact .inl rfl
 | some a=>exact .inr (fun e=>hne a rfl (by injection e))
theorem IAt.grownO {W W' : World} {A : Option Addr} {n c : Nat} {t : Trie.T} {row : Option Nat} (h : IAt W A n c t) (hg : W.grownBy W' row) (hne : ∀ k,row = some k → ∃ e cs,Blk W k e cs ∧ e ≠ 77) : IAt W' A n c t:=by
 obtain ⟨B,ho⟩:=h.ho
 refine ⟨h.hn,h.hc,⟨B,ho.kept hg ?_⟩⟩
 cases row with
 | none=>cases hv : (Value.slice A n c).ownBlock <;> simp
 | some k =>
  obtain ⟨e,cs,hb,h2⟩:=hne k rfl
  exact .inr (own_blk_ne ho hb (fun h=>h2 h.symm))
def DoIEnd (w : World) (t : Trie.T) (cd : Nat) (e : Ending) (w' : World) : Prop :=
 ∃ A n c,e = .returned (.tuple #[.slice A n c,.int .i64 (cd : Int)]) ∧ Below w.heap.size w w' ∧ (cd = 0 → IAt w' A n c t ∧ ∀ a,A = some a → w.heap.size ≤ a.block) ∧ (cd ≠ 0 → n = 0)
theorem items_len {t : Trie.T} : (Trie.itemsW t).length = Trie.count t:=by rw [Trie.itemsW,List.length_map,Trie.length_items]
theorem items_Put (w : World) (t : Trie.T) (hg : Trie.Good t) (hcn : Trie.count t ≤ 1000) (A : Option Addr) (n c : Nat) (h : IAt w A n c t) (k v : List UInt8) (hp : Trie.putCode k v = 0) (hk : k.length ≤ 9223372036854775807) (hv : v.length ≤ 9223372036854775807) :
  Calls Tryz.prog 47 #[.slice A n c,.string ⟨k.toArray⟩,.string ⟨v.toArray⟩] w (DoIEnd w (Trie.put t (Nib.of k) v) 0):=by
 have hr:=h.hr
 obtain ⟨rfl,hc,_⟩:=h
 obtain ⟨h1,h2⟩:=Trie.rput_put hg k v
 rw [hp] at h1
 have h2:=h2 hp
 refine (ref10_Put w A c (Trie.itemsW t) hr hc (by rw [items_len]; exact hcn) k v hk hv).mono ?_
 rintro e w' ⟨A',n',c',rfl,hn,hc',own,hb⟩
 rw [h1]
 rw [h2] at hn own
 obtain ⟨A2,c2,e2,_,_,hge⟩:=own_form own
 injection e2 with e2 _ _
 subst e2
 exact ⟨A',n',c',rfl,hb,fun _=>⟨⟨hn,hc',⟨_,own⟩⟩,hge⟩,fun h=>absurd rfl h⟩
theorem items_Del (w : World) (t : Trie.T) (hg : Trie.Good t) (hcn : Trie.count t ≤ 1000) (A : Option Addr) (n c : Nat) (h : IAt w A n c t) (k : List UInt8) (hk : k.length ≤ 9223372036854775807) :
  Calls Tryz.prog 56 #[.slice A n c,.string ⟨k.toArray⟩] w (DoIEnd w (Trie.del t (Nib.of k)) (Trie.getW t k).2):=by
 have hr:=h.hr
 obtain ⟨rfl,hc,_⟩:=h
 obtain ⟨h1,h2⟩:=Trie.rdel_del hg k
 refine (ref10_Del w A c (Trie.itemsW t) hr hc (by rw [items_len]; exact hcn) k hk).mono ?_
 rintro e w' ⟨A',n',c',rfl,hn,hc',own,hb⟩
 rw [h1]
 refine ⟨A',n',c',rfl,hb,fun h => ?_,fun h => ?_⟩
 ·rw [h2 h] at hn own
  obtain ⟨A2,c2,e2,_,_,hge⟩:=own_form own
  injection e2 with e2 _ _
  subst e2
  exact ⟨⟨hn,hc',⟨_,own⟩⟩,hge⟩
 ·rw [hn]
  have : (Trie.rdel (Trie.itemsW t) k).1 = []:=by
   unfold Trie.rdel at h1 ⊢
   split
   ·rename_i e
    rw [if_pos e] at h1
    exact absurd h1.symm h
   ·rfl
  rw [this]; rfl
theorem accW_none {t : Trie.T} {n : List UInt8} (hn : Ex.nameW n = true) (h : Ex.acc t n = none) : accW t n = (([],0,0),3):=by unfold accW; rw [if_pos hn,h]
theorem accW_some {t : Trie.T} {n : List UInt8} {p : Nat × Nat} (hn : Ex.nameW n = true) (h : Ex.acc t n = some p) : accW t n = ((n,p.1,p.2),0):=by unfold accW; rw [if_pos hn,h]
set_option maxRecDepth 100000 in
set_option maxHeartbeats 4000000 in
theorem ref16_Do (w : World) (t : Trie.T) (hg : Trie.Good t) (hcn : Trie.count t ≤ 900) (A : Option Addr) (n c : Nat) (HI : IAt w A n c t) (kd : Int) (fr : List UInt8) (sq : Int) (dt : List UInt8) (am : Int) (ky vl : List UInt8) (mm : List Pw.Mem) (B : Option Addr) (m : Nat)
  (hok : fr.length ≤ 9223372036854775807 ∧ dt.length ≤ 9223372036854775807 ∧ ky.length ≤ 9223372036854775807 ∧ vl.length ≤ 9223372036854775807 ∧ ∀ x ∈ mm,x.1.length ≤ 9223372036854775807) (HR : Reads w w.heap.size 2 B mm.length (mcells mm)) :
  Calls Tryz.prog 18 #[.slice A n c,.agg #[.int .i64 kd,.string ⟨fr.toArray⟩,.int .i64 sq,.string ⟨dt.toArray⟩,.int .i64 am,.string ⟨ky.toArray⟩,.string ⟨vl.toArray⟩,.slice B mm.length m]] w (DoIEnd w (Ex.doW t ⟨kd,fr,sq,dt,am,ky,vl,mm⟩).1 (Ex.doW t ⟨kd,fr,sq,dt,am,ky,vl,mm⟩).2):=by
 have HP : Hid (∀ t' cd A' n' c' w',Ex.doW t ⟨kd,fr,sq,dt,am,ky,vl,mm⟩ = (t',cd) → Below w.heap.size w w' → (cd = 0 → IAt w' A' n' c' t' ∧ ∀ a,A' = some a → w.heap.size ≤ a.block) → (cd ≠ 0 → n' = 0) → DoIEnd w (Ex.doW t ⟨kd,fr,sq,dt,am,ky,vl,mm⟩).1 (Ex.doW t ⟨kd,fr,sq,dt,am,ky,vl,mm⟩).2 (.returned (.tuple #[.slice A' n' c',.int .i64 (cd : Int)])) w'):=Lib.hid (fun t' cd A' n' c' w' e h1 h2 h3=>by rw [e]; exact ⟨A',n',c',rfl,h1,h2,h3⟩)
 generalize DoIEnd w (Ex.doW t ⟨kd,fr,sq,dt,am,ky,vl,mm⟩).1 (Ex.doW t ⟨kd,fr,sq,dt,am,ky,vl,mm⟩).2 = P at HP ⊢
 have HFn:=Lib.hid (fun W (hW : Below w.heap.size w W)=>ref15_Fine W kd fr sq dt am ky vl mm B m hok ((HR.below hW).more hW.size))
 have HAf : Hid (∀ W,Below w.heap.size w W → Calls Tryz.prog 21 #[.slice A n c,.string ⟨fr.toArray⟩] W (AccEnd W (accW t fr))):=Lib.hid (fun W hW=>by
  have h:=HI.next hW
  have:=ref16_Account W t hg A c (h.hn ▸ h.hr) (by rw [items_len]; omega) fr hok.1
  rwa [← h.hn] at this)
 have HAd : Hid (∀ W,Below w.heap.size w W → Calls Tryz.prog 21 #[.slice A n c,.string ⟨dt.toArray⟩] W (AccEnd W (accW t dt))):=Lib.hid (fun W hW=>by
  have h:=HI.next hW
  have:=ref16_Account W t hg A c (h.hn ▸ h.hr) (by rw [items_len]; omega) dt hok.2.1
  rwa [← h.hn] at this)
 have HIt:=Lib.hid HI
 have HGo:=Lib.hid hg
 have HCn:=Lib.hid hcn
 have HRd:=Lib.hid (And.intro hok.2.2.2.2 HR)
 unfold AccEnd at HAf HAd
 obtain ⟨X,hX⟩ : ∃ X,Ex.doW t ⟨kd,fr,sq,dt,am,ky,vl,mm⟩ = X:=⟨_,rfl⟩
 have hX2:=hX
 unfold Ex.doW at hX2
 rw [hX] at HP
 clear hg hcn HI hok HR hX
 cases hx : Ex.fineX ⟨kd,fr,sq,dt,am,ky,vl,mm⟩ with
 | false =>
  have HE : Hid (X = (t,150)):=Lib.hid (by rw [← hX2,if_pos hx])
  rw [hx] at HFn
  clear hX2 hx
  go_enter Tryz.func18,Tryz.ntmps18
  go_upto_region 1 with fail
  have F0:=Live.ha (Lib.hid (Live.start w)) #[.int .i64 kd,.string ⟨fr.toArray⟩,.int .i64 sq,.string ⟨dt.toArray⟩,.int .i64 am,.string ⟨ky.toArray⟩,.string ⟨vl.toArray⟩,.slice B mm.length m] 43
  generalize w.alloc (.cells #[.int .i64 kd,.string ⟨fr.toArray⟩,.int .i64 sq,.string ⟨dt.toArray⟩,.int .i64 am,.string ⟨ky.toArray⟩,.string ⟨vl.toArray⟩,.slice B mm.length m] 43) = W0 at F0 ⊢
  generalize w.heap.size = xb at F0 ⊢
  have k0_0 : W0.cell? ⟨xb,0,none⟩ = some (.int .i64 kd):=F0.out.cell 0 0 rfl rfl; have k0_1 : W0.cell? ⟨xb,1,none⟩ = some (.string ⟨fr.toArray⟩):=F0.out.cell 0 1 rfl rfl; have k0_2 : W0.cell? ⟨xb,2,none⟩ = some (.int .i64 sq):=F0.out.cell 0 2 rfl rfl; have k0_3 : W0.cell? ⟨xb,3,none⟩ = some (.string ⟨dt.toArray⟩):=F0.out.cell 0 3 rfl rfl; have k0_4 : W0.cell? ⟨xb,4,none⟩ = some (.int .i64 am):=F0.out.cell 0 4 rfl rfl; have k0_5 : W0.cell? ⟨xb,5,none⟩ = some (.string ⟨ky.toArray⟩):=F0.out.cell 0 5 rfl rfl; have k0_6 : W0.cell? ⟨xb,6,none⟩ = some (.string ⟨vl.toArray⟩):=F0.out.cell 0 6 rfl rfl; have k0_7 : W0.cell? ⟨xb,7,none⟩ = some (.slice B mm.length m):=F0.out.cell 0 7 rfl rfl
  go_wp2_with fail
  refine (HFn.out _ F0.out.b).mono ?_
  rintro e w1 ⟨rfl,hb⟩
  have F1:=Live.hb F0 hb
  clear hb F0 HFn k0_0 k0_1 k0_2 k0_3 k0_4 k0_5 k0_6 k0_7
  have k0_0 : w1.cell? ⟨xb,0,none⟩ = some (.int .i64 kd):=F1.out.cell 0 0 rfl rfl; have k0_1 : w1.cell? ⟨xb,1,none⟩ = some (.string ⟨fr.toArray⟩):=F1.out.cell 0 1 rfl rfl; have k0_2 : w1.cell? ⟨xb,2,none⟩ = some (.int .i64 sq):=F1.out.cell 0 2 rfl rfl; have k0_3 : w1.cell? ⟨xb,3,none⟩ = some (.string ⟨dt.toArray⟩):=F1.out.cell 0 3 rfl rfl; have k0_4 : w1.cell? ⟨xb,4,none⟩ = some (.int .i64 am):=F1.out.cell 0 4 rfl rfl; have k0_5 : w1.cell? ⟨xb,5,none⟩ = some (.string ⟨ky.toArray⟩):=F1.out.cell 0 5 rfl rfl; have k0_6 : w1.cell? ⟨xb,6,none⟩ = some (.string ⟨vl.toArray⟩):=F1.out.cell 0 6 rfl rfl; have k0_7 : w1.cell? ⟨xb,7,none⟩ = some (.slice B mm.length m):=F1.out.cell 0 7 rfl rfl
  go_wp2_with fail
  exact HP.out t 150 none 0 0 _ HE.out F1.out.b (fun h=>absurd h (by decide)) (fun _=>rfl)
 | true =>
 rw [hx] at HFn
 rw [if_neg (by rw [hx]; decide)] at hX2
 have hsp:=Ex.fineX_spec hx
 simp only at hsp hX2
 cases hf : Ex.acc t fr with
 | none =>
  rw [hf] at hX2
  rw [accW_none hsp.1 hf] at HAf
  simp only at HAf hX2
  have HE : Hid (X = (t,3)):=Lib.hid hX2.symm
  obtain ⟨⟨⟨dm,da,dq⟩,dc⟩,hdr⟩ : ∃ r,accW t dt = r:=⟨_,rfl⟩
  rw [hdr] at HAd
  simp only at HAd
  clear hX2 hsp hdr hx hf
  go_enter Tryz.func18,Tryz.ntmps18
  go_upto_region 1 with fail
  have F0:=Live.ha (Lib.hid (Live.start w)) #[.int .i64 kd,.string ⟨fr.toArray⟩,.int .i64 sq,.string ⟨dt.toArray⟩,.int .i64 am,.string ⟨ky.toArray⟩,.string ⟨vl.toArray⟩,.slice B mm.length m] 43
  generalize w.alloc (.cells #[.int .i64 kd,.string ⟨fr.toArray⟩,.int .i64 sq,.string ⟨dt.toArray⟩,.int .i64 am,.string ⟨ky.toArray⟩,.string ⟨vl.toArray⟩,.slice B mm.length m] 43) = W0 at F0 ⊢
  generalize w.heap.size = xb at F0 ⊢
  have k0_0 : W0.cell? ⟨xb,0,none⟩ = some (.int .i64 kd):=F0.out.cell 0 0 rfl rfl; have k0_1 : W0.cell? ⟨xb,1,none⟩ = some (.string ⟨fr.toArray⟩):=F0.out.cell 0 1 rfl rfl; have k0_2 : W0.cell? ⟨xb,2,none⟩ = some (.int .i64 sq):=F0.out.cell 0 2 rfl rfl; have k0_3 : W0.cell? ⟨xb,3,none⟩ = some (.string ⟨dt.toArray⟩):=F0.out.cell 0 3 rfl rfl; have k0_4 : W0.cell? ⟨xb,4,none⟩ = some (.int .i64 am):=F0.out.cell 0 4 rfl rfl; have k0_5 : W0.cell? ⟨xb,5,none⟩ = some (.string ⟨ky.toArray⟩):=F0.out.cell 0 5 rfl rfl; have k0_6 : W0.cell? ⟨xb,6,none⟩ = some (.string ⟨vl.toArray⟩):=F0.out.cell 0 6 rfl rfl; have k0_7 : W0.cell? ⟨xb,7,none⟩ = some (.slice B mm.length m):=F0.out.cell 0 7 rfl rfl
  go_wp2_with fail
  refine (HFn.out _ F0.out.b).mono ?_
  rintro e w1 ⟨rfl,hb⟩
  have F1:=Live.hb F0 hb
  clear hb F0 HFn k0_0 k0_1 k0_2 k0_3 k0_4 k0_5 k0_6 k0_7
  have k0_0 : w1.cell? ⟨xb,0,none⟩ = some (.int .i64 kd):=F1.out.cell 0 0 rfl rfl; have k0_1 : w1.cell? ⟨xb,1,none⟩ = some (.string ⟨fr.toArray⟩):=F1.out.cell 0 1 rfl rfl; have k0_2 : w1.cell? ⟨xb,2,none⟩ = some (.int .i64 sq):=F1.out.cell 0 2 rfl rfl; have k0_3 : w1.cell? ⟨xb,3,none⟩ = some (.string ⟨dt.toArray⟩):=F1.out.cell 0 3 rfl rfl; have k0_4 : w1.cell? ⟨xb,4,none⟩ = some (.int .i64 am):=F1.out.cell 0 4 rfl rfl; have k0_5 : w1.cell? ⟨xb,5,none⟩ = some (.string ⟨ky.toArray⟩):=F1.out.cell 0 5 rfl rfl; have k0_6 : w1.cell? ⟨xb,6,none⟩ = some (.string ⟨vl.toArray⟩):=F1.out.cell 0 6 rfl rfl; have k0_7 : w1.cell? ⟨xb,7,none⟩ = some (.slice B mm.length m):=F1.out.cell 0 7 rfl rfl
  go_wp2_with fail
  refine (HAf.out _ F1.out.b).mono ?_
  rintro e w2 ⟨rfl,hb⟩
  have F2:=Live.hb F1 hb
  clear hb F1 HAf k0_0 k0_1 k0_2 k0_3 k0_4 k0_5 k0_6 k0_7
  go_upto_region 4 with fail
  have F3:=Live.ha F2 #[.string ⟨#[]⟩,.int .i64 0,.int .i64 0] 56
  generalize w2.alloc (.cells #[.string ⟨#[]⟩,.int .i64 0,.int .i64 0] 56) = w3 at F3 ⊢
  generalize w2.heap.size = fb at F3 ⊢
  clear F2
  have k0_0 : w3.cell? ⟨fb,0,none⟩ = some (.string ⟨#[]⟩):=F3.out.cell 0 0 rfl rfl; have k0_1 : w3.cell? ⟨fb,1,none⟩ = some (.int .i64 0):=F3.out.cell 0 1 rfl rfl; have k0_2 : w3.cell? ⟨fb,2,none⟩ = some (.int .i64 0):=F3.out.cell 0 2 rfl rfl
  go_upto_region 5 with fail
  have F4:=Live.ha F3 #[.string ⟨#[]⟩,.int .i64 0,.int .i64 0] 56
  generalize w3.alloc (.cells #[.string ⟨#[]⟩,.int .i64 0,.int .i64 0] 56) = w4 at F4 ⊢
  generalize w3.heap.size = tb at F4 ⊢
  clear F3 k0_0 k0_1 k0_2
  have k0_0 : w4.cell? ⟨tb,0,none⟩ = some (.string ⟨#[]⟩):=F4.out.cell 0 0 rfl rfl; have k0_1 : w4.cell? ⟨tb,1,none⟩ = some (.int .i64 0):=F4.out.cell 0 1 rfl rfl; have k0_2 : w4.cell? ⟨tb,2,none⟩ = some (.int .i64 0):=F4.out.cell 0 2 rfl rfl
  have k1_0 : w4.cell? ⟨fb,0,none⟩ = some (.string ⟨#[]⟩):=F4.out.cell 1 0 rfl rfl; have k1_1 : w4.cell? ⟨fb,1,none⟩ = some (.int .i64 0):=F4.out.cell 1 1 rfl rfl; have k1_2 : w4.cell? ⟨fb,2,none⟩ = some (.int .i64 0):=F4.out.cell 1 2 rfl rfl
  have k2_0 : w4.cell? ⟨xb,0,none⟩ = some (.int .i64 kd):=F4.out.cell 2 0 rfl rfl; have k2_1 : w4.cell? ⟨xb,1,none⟩ = some (.string ⟨fr.toArray⟩):=F4.out.cell 2 1 rfl rfl; have k2_2 : w4.cell? ⟨xb,2,none⟩ = some (.int .i64 sq):=F4.out.cell 2 2 rfl rfl; have k2_3 : w4.cell? ⟨xb,3,none⟩ = some (.string ⟨dt.toArray⟩):=F4.out.cell 2 3 rfl rfl; have k2_4 : w4.cell? ⟨xb,4,none⟩ = some (.int .i64 am):=F4.out.cell 2 4 rfl rfl; have k2_5 : w4.cell? ⟨xb,5,none⟩ = some (.string ⟨ky.toArray⟩):=F4.out.cell 2 5 rfl rfl; have k2_6 : w4.cell? ⟨xb,6,none⟩ = some (.string ⟨vl.toArray⟩):=F4.out.cell 2 6 rfl rfl; have k2_7 : w4.cell? ⟨xb,7,none⟩ = some (.slice B mm.length m):=F4.out.cell 2 7 rfl rfl
  by_cases k1 : kd = 1
  ·subst k1
   go_wp2_with fail
   refine (HAd.out _ F4.out.b).mono ?_
   rintro e w5 ⟨rfl,hb⟩
   have F5:=Live.hb F4 hb
   clear hb F4 HAd k0_0 k0_1 k0_2 k1_0 k1_1 k1_2 k2_0 k2_1 k2_2 k2_3 k2_4 k2_5 k2_6 k2_7
   have fz0 : w5.frozen? ⟨tb,0,none⟩ = false:=F5.out.frozen 0 0 rfl
   have fz1 : w5.frozen? ⟨tb,1,none⟩ = false:=F5.out.frozen 0 1 rfl
   have fz2 : w5.frozen? ⟨tb,2,none⟩ = false:=F5.out.frozen 0 2 rfl
   have y0 : w5.cell? ⟨tb,0,none⟩ = some (.string ⟨#[]⟩):=F5.out.cell 0 0 rfl rfl
   have y1 : w5.cell? ⟨tb,1,none⟩ = some (.int .i64 0):=F5.out.cell 0 1 rfl rfl
   have y2 : w5.cell? ⟨tb,2,none⟩ = some (.int .i64 0):=F5.out.cell 0 2 rfl rfl
   go_upto_region 7 with fail
   have F6 : Hid (Live w (((w5.setCell ⟨tb,0,none⟩ (.string ⟨dm.toArray⟩)).setCell ⟨tb,1,none⟩ (.int .i64 (da : Int))).setCell ⟨tb,2,none⟩ (.int .i64 (dq : Int))) [(tb,56,#[.string ⟨dm.toArray⟩,.int .i64 (da : Int),.int .i64 (dq : Int)]),(fb,56,#[.string ⟨#[]⟩,.int .i64 0,.int .i64 0]),(xb,43,#[.int .i64 1,.string ⟨fr.toArray⟩,.int .i64 sq,.string ⟨dt.toArray⟩,.int .i64 am,.string ⟨ky.toArray⟩,.string ⟨vl.toArray⟩,.slice B mm.length m])]):=Lib.hid (((F5.out.set 0 0 _ rfl).set 0 1 _ rfl).set 0 2 _ rfl)
   generalize ((w5.setCell ⟨tb,0,none⟩ (.string ⟨dm.toArray⟩)).setCell ⟨tb,1,none⟩ (.int .i64 (da : Int))).setCell ⟨tb,2,none⟩ (.int .i64 (dq : Int)) = w6 at F6 ⊢
   clear F5 fz0 fz1 fz2 y0 y1 y2
   have k0_0 : w6.cell? ⟨tb,0,none⟩ = some (.string ⟨dm.toArray⟩):=F6.out.cell 0 0 rfl rfl; have k0_1 : w6.cell? ⟨tb,1,none⟩ = some (.int .i64 (da : Int)):=F6.out.cell 0 1 rfl rfl; have k0_2 : w6.cell? ⟨tb,2,none⟩ = some (.int .i64 (dq : Int)):=F6.out.cell 0 2 rfl rfl
   have k1_0 : w6.cell? ⟨fb,0,none⟩ = some (.string ⟨#[]⟩):=F6.out.cell 1 0 rfl rfl; have k1_1 : w6.cell? ⟨fb,1,none⟩ = some (.int .i64 0):=F6.out.cell 1 1 rfl rfl; have k1_2 : w6.cell? ⟨fb,2,none⟩ = some (.int .i64 0):=F6.out.cell 1 2 rfl rfl
   have k2_0 : w6.cell? ⟨xb,0,none⟩ = some (.int .i64 1):=F6.out.cell 2 0 rfl rfl; have k2_1 : w6.cell? ⟨xb,1,none⟩ = some (.string ⟨fr.toArray⟩):=F6.out.cell 2 1 rfl rfl; have k2_2 : w6.cell? ⟨xb,2,none⟩ = some (.int .i64 sq):=F6.out.cell 2 2 rfl rfl; have k2_3 : w6.cell? ⟨xb,3,none⟩ = some (.string ⟨dt.toArray⟩):=F6.out.cell 2 3 rfl rfl; have k2_4 : w6.cell? ⟨xb,4,none⟩ = some (.int .i64 am):=F6.out.cell 2 4 rfl rfl; have k2_5 : w6.cell? ⟨xb,5,none⟩ = some (.string ⟨ky.toArray⟩):=F6.out.cell 2 5 rfl rfl; have k2_6 : w6.cell? ⟨xb,6,none⟩ = some (.string ⟨vl.toArray⟩):=F6.out.cell 2 6 rfl rfl; have k2_7 : w6.cell? ⟨xb,7,none⟩ = some (.slice B mm.length m):=F6.out.cell 2 7 rfl rfl
   go_wp2_with fail
   exact HP.out t 3 none 0 0 _ HE.out F6.out.b (fun h=>absurd h (by decide)) (fun _=>rfl)
  ·have k1' : (kd == 1) = false:=by simp; exact k1
   go_wp2_with fail
   exact HP.out t 3 none 0 0 _ HE.out F4.out.b (fun h=>absurd h (by decide)) (fun _=>rfl)
 | some f =>
 obtain ⟨f1,f2⟩:=f
 have hle:=Ex.acc_le hf
 rw [hf] at hX2
 rw [accW_some hsp.1 hf] at HAf
 simp only at HAf hX2 hle
 have HNm:=Lib.hid (Ex.nameW_len hsp.1).2
 by_cases k1 : kd = 1
 ·subst k1
  have hk1 : Ex.nameW dt = true ∧ 1 ≤ am ∧ am ≤ 1099511627776:=by
   rcases hsp.2.2.2 with ⟨_,a,b,c,_⟩ | ⟨k,_⟩ | ⟨k,_⟩ | ⟨k,_⟩
   ·exact ⟨a,b,c⟩
   ·omega
   ·omega
   ·omega
  obtain ⟨hnd,ha1,ha2⟩:=hk1
  unfold Ex.accTo at hX2
  rw [if_pos rfl] at hX2
  simp only at hX2
  cases htt : Ex.acc t dt with
  | none =>
   rw [htt] at hX2
   rw [accW_none hnd htt] at HAd
   simp only at HAd hX2
   have HE : Hid (X = (t,3)):=Lib.hid hX2.symm
   clear hX2 hsp hx hf htt hle hnd ha1 ha2
   go_enter Tryz.func18,Tryz.ntmps18
   go_upto_region 1 with fail
   have F0:=Live.ha (Lib.hid (Live.start w)) #[.int .i64 1,.string ⟨fr.toArray⟩,.int .i64 sq,.string ⟨dt.toArray⟩,.int .i64 am,.string ⟨ky.toArray⟩,.string ⟨vl.toArray⟩,.slice B mm.length m] 43
   generalize w.alloc (.cells #[.int .i64 1,.string ⟨fr.toArray⟩,.int .i64 sq,.string ⟨dt.toArray⟩,.int .i64 am,.string ⟨ky.toArray⟩,.string ⟨vl.toArray⟩,.slice B mm.length m] 43) = W0 at F0 ⊢
   generalize w.heap.size = xb at F0 ⊢
   have k0_0 : W0.cell? ⟨xb,0,none⟩ = some (.int .i64 1):=F0.out.cell 0 0 rfl rfl; have k0_1 : W0.cell? ⟨xb,1,none⟩ = some (.string ⟨fr.toArray⟩):=F0.out.cell 0 1 rfl rfl; have k0_2 : W0.cell? ⟨xb,2,none⟩ = some (.int .i64 sq):=F0.out.cell 0 2 rfl rfl; have k0_3 : W0.cell? ⟨xb,3,none⟩ = some (.string ⟨dt.toArray⟩):=F0.out.cell 0 3 rfl rfl; have k0_4 : W0.cell? ⟨xb,4,none⟩ = some (.int .i64 am):=F0.out.cell 0 4 rfl rfl; have k0_5 : W0.cell? ⟨xb,5,none⟩ = some (.string ⟨ky.toArray⟩):=F0.out.cell 0 5 rfl rfl; have k0_6 : W0.cell? ⟨xb,6,none⟩ = some (.string ⟨vl.toArray⟩):=F0.out.cell 0 6 rfl rfl; have k0_7 : W0.cell? ⟨xb,7,none⟩ = some (.slice B mm.length m):=F0.out.cell 0 7 rfl rfl
   go_wp2_with fail
   refine (HFn.out _ F0.out.b).mono ?_
   rintro e w1 ⟨rfl,hb⟩
   have F1:=Live.hb F0 hb
   clear hb F0 HFn k0_0 k0_1 k0_2 k0_3 k0_4 k0_5 k0_6 k0_7
   have k0_0 : w1.cell? ⟨xb,0,none⟩ = some (.int .i64 1):=F1.out.cell 0 0 rfl rfl; have k0_1 : w1.cell? ⟨xb,1,none⟩ = some (.string ⟨fr.toArray⟩):=F1.out.cell 0 1 rfl rfl; have k0_2 : w1.cell? ⟨xb,2,none⟩ = some (.int .i64 sq):=F1.out.cell 0 2 rfl rfl; have k0_3 : w1.cell? ⟨xb,3,none⟩ = some (.string ⟨dt.toArray⟩):=F1.out.cell 0 3 rfl rfl; have k0_4 : w1.cell? ⟨xb,4,none⟩ = some (.int .i64 am):=F1.out.cell 0 4 rfl rfl; have k0_5 : w1.cell? ⟨xb,5,none⟩ = some (.string ⟨ky.toArray⟩):=F1.out.cell 0 5 rfl rfl; have k0_6 : w1.cell? ⟨xb,6,none⟩ = some (.string ⟨vl.toArray⟩):=F1.out.cell 0 6 rfl rfl; have k0_7 : w1.cell? ⟨xb,7,none⟩ = some (.slice B mm.length m):=F1.out.cell 0 7 rfl rfl
   go_wp2_with fail
   refine (HAf.out _ F1.out.b).mono ?_
   rintro e w2 ⟨rfl,hb⟩
   have F2:=Live.hb F1 hb
   clear hb F1 HAf k0_0 k0_1 k0_2 k0_3 k0_4 k0_5 k0_6 k0_7
   go_upto_region 4 with fail
   have F3:=Live.ha F2 #[.string ⟨fr.toArray⟩,.int .i64 (f1 : Int),.int .i64 (f2 : Int)] 56
   generalize w2.alloc (.cells #[.string ⟨fr.toArray⟩,.int .i64 (f1 : Int),.int .i64 (f2 : Int)] 56) = w3 at F3 ⊢
   generalize w2.heap.size = fb at F3 ⊢
   clear F2
   have k0_0 : w3.cell? ⟨fb,0,none⟩ = some (.string ⟨fr.toArray⟩):=F3.out.cell 0 0 rfl rfl; have k0_1 : w3.cell? ⟨fb,1,none⟩ = some (.int .i64 (f1 : Int)):=F3.out.cell 0 1 rfl rfl; have k0_2 : w3.cell? ⟨fb,2,none⟩ = some (.int .i64 (f2 : Int)):=F3.out.cell 0 2 rfl rfl
   go_upto_region 5 with fail
   have F4:=Live.ha F3 #[.string ⟨fr.toArray⟩,.int .i64 (f1 : Int),.int .i64 (f2 : Int)] 56
   generalize w3.alloc (.cells #[.string ⟨fr.toArray⟩,.int .i64 (f1 : Int),.int .i64 (f2 : Int)] 56) = w4 at F4 ⊢
   generalize w3.heap.size = tb at F4 ⊢
   clear F3 k0_0 k0_1 k0_2
   have k0_0 : w4.cell? ⟨tb,0,none⟩ = some (.string ⟨fr.toArray⟩):=F4.out.cell 0 0 rfl rfl; have k0_1 : w4.cell? ⟨tb,1,none⟩ = some (.int .i64 (f1 : Int)):=F4.out.cell 0 1 rfl rfl; have k0_2 : w4.cell? ⟨tb,2,none⟩ = some (.int .i64 (f2 : Int)):=F4.out.cell 0 2 rfl rfl
   have k1_0 : w4.cell? ⟨fb,0,none⟩ = some (.string ⟨fr.toArray⟩):=F4.out.cell 1 0 rfl rfl; have k1_1 : w4.cell? ⟨fb,1,none⟩ = some (.int .i64 (f1 : Int)):=F4.out.cell 1 1 rfl rfl; have k1_2 : w4.cell? ⟨fb,2,none⟩ = some (.int .i64 (f2 : Int)):=F4.out.cell 1 2 rfl rfl
   have k2_0 : w4.cell? ⟨xb,0,none⟩ = some (.int .i64 1):=F4.out.cell 2 0 rfl rfl; have k2_1 : w4.cell? ⟨xb,1,none⟩ = some (.string ⟨fr.toArray⟩):=F4.out.cell 2 1 rfl rfl; have k2_2 : w4.cell? ⟨xb,2,none⟩ = some (.int .i64 sq):=F4.out.cell 2 2 rfl rfl; have k2_3 : w4.cell? ⟨xb,3,none⟩ = some (.string ⟨dt.toArray⟩):=F4.out.cell 2 3 rfl rfl; have k2_4 : w4.cell? ⟨xb,4,none⟩ = some (.int .i64 am):=F4.out.cell 2 4 rfl rfl; have k2_5 : w4.cell? ⟨xb,5,none⟩ = some (.string ⟨ky.toArray⟩):=F4.out.cell 2 5 rfl rfl; have k2_6 : w4.cell? ⟨xb,6,none⟩ = some (.string ⟨vl.toArray⟩):=F4.out.cell 2 6 rfl rfl; have k2_7 : w4.cell? ⟨xb,7,none⟩ = some (.slice B mm.length m):=F4.out.cell 2 7 rfl rfl
   go_wp2_with fail
   refine (HAd.out _ F4.out.b).mono ?_
   rintro e w5 ⟨rfl,hb⟩
   have F5:=Live.hb F4 hb
   clear hb F4 HAd k0_0 k0_1 k0_2 k1_0 k1_1 k1_2 k2_0 k2_1 k2_2 k2_3 k2_4 k2_5 k2_6 k2_7
   have fz0 : w5.frozen? ⟨tb,0,none⟩ = false:=F5.out.frozen 0 0 rfl
   have fz1 : w5.frozen? ⟨tb,1,none⟩ = false:=F5.out.frozen 0 1 rfl
   have fz2 : w5.frozen? ⟨tb,2,none⟩ = false:=F5.out.frozen 0 2 rfl
   have y0 : w5.cell? ⟨tb,0,none⟩ = some (.string ⟨fr.toArray⟩):=F5.out.cell 0 0 rfl rfl
   have y1 : w5.cell? ⟨tb,1,none⟩ = some (.int .i64 (f1 : Int)):=F5.out.cell 0 1 rfl rfl
   have y2 : w5.cell? ⟨tb,2,none⟩ = some (.int .i64 (f2 : Int)):=F5.out.cell 0 2 rfl rfl
   go_upto_region 7 with fail
   have F6 : Hid (Live w (((w5.setCell ⟨tb,0,none⟩ (.string ⟨#[]⟩)).setCell ⟨tb,1,none⟩ (.int .i64 0)).setCell ⟨tb,2,none⟩ (.int .i64 0)) [(tb,56,#[.string ⟨#[]⟩,.int .i64 0,.int .i64 0]),(fb,56,#[.string ⟨fr.toArray⟩,.int .i64 (f1 : Int),.int .i64 (f2 : Int)]),(xb,43,#[.int .i64 1,.string ⟨fr.toArray⟩,.int .i64 sq,.string ⟨dt.toArray⟩,.int .i64 am,.string ⟨ky.toArray⟩,.string ⟨vl.toArray⟩,.slice B mm.length m])]):=Lib.hid (((F5.out.set 0 0 _ rfl).set 0 1 _ rfl).set 0 2 _ rfl)
   generalize ((w5.setCell ⟨tb,0,none⟩ (.string ⟨#[]⟩)).setCell ⟨tb,1,none⟩ (.int .i64 0)).setCell ⟨tb,2,none⟩ (.int .i64 0) = w6 at F6 ⊢
   clear F5 fz0 fz1 fz2 y0 y1 y2
   have k0_0 : w6.cell? ⟨tb,0,none⟩ = some (.string ⟨#[]⟩):=F6.out.cell 0 0 rfl rfl; have k0_1 : w6.cell? ⟨tb,1,none⟩ = some (.int .i64 0):=F6.out.cell 0 1 rfl rfl; have k0_2 : w6.cell? ⟨tb,2,none⟩ = some (.int .i64 0):=F6.out.cell 0 2 rfl rfl
   have k1_0 : w6.cell? ⟨fb,0,none⟩ = some (.string ⟨fr.toArray⟩):=F6.out.cell 1 0 rfl rfl; have k1_1 : w6.cell? ⟨fb,1,none⟩ = some (.int .i64 (f1 : Int)):=F6.out.cell 1 1 rfl rfl; have k1_2 : w6.cell? ⟨fb,2,none⟩ = some (.int .i64 (f2 : Int)):=F6.out.cell 1 2 rfl rfl
   have k2_0 : w6.cell? ⟨xb,0,none⟩ = some (.int .i64 1):=F6.out.cell 2 0 rfl rfl; have k2_1 : w6.cell? ⟨xb,1,none⟩ = some (.string ⟨fr.toArray⟩):=F6.out.cell 2 1 rfl rfl; have k2_2 : w6.cell? ⟨xb,2,none⟩ = some (.int .i64 sq):=F6.out.cell 2 2 rfl rfl; have k2_3 : w6.cell? ⟨xb,3,none⟩ = some (.string ⟨dt.toArray⟩):=F6.out.cell 2 3 rfl rfl; have k2_4 : w6.cell? ⟨xb,4,none⟩ = some (.int .i64 am):=F6.out.cell 2 4 rfl rfl; have k2_5 : w6.cell? ⟨xb,5,none⟩ = some (.string ⟨ky.toArray⟩):=F6.out.cell 2 5 rfl rfl; have k2_6 : w6.cell? ⟨xb,6,none⟩ = some (.string ⟨vl.toArray⟩):=F6.out.cell 2 6 rfl rfl; have k2_7 : w6.cell? ⟨xb,7,none⟩ = some (.slice B mm.length m):=F6.out.cell 2 7 rfl rfl
   go_wp2_with fail
   exact HP.out t 3 none 0 0 _ HE.out F6.out.b (fun h=>absurd h (by decide)) (fun _=>rfl)
  | some tt =>
  obtain ⟨t1,t2⟩:=tt
  have htl:=Ex.acc_le htt
  rw [htt] at hX2
  rw [accW_some hnd htt] at HAd
  simp only at HAd hX2 htl
  by_cases hs : (f2 : Int) = sq
  rotate_left
  ·have hs1 : ((f2 : Int) != sq) = true:=by simp; exact hs
   rw [if_pos (Or.inl hs)] at hX2
   have HE : Hid (X = (t,160)):=Lib.hid hX2.symm
   clear hX2 hsp hx hf hle hs htt htl ha1 ha2 hnd
   go_enter Tryz.func18,Tryz.ntmps18
   go_upto_region 1 with fail
   have F0:=Live.ha (Lib.hid (Live.start w)) #[.int .i64 1,.string ⟨fr.toArray⟩,.int .i64 sq,.string ⟨dt.toArray⟩,.int .i64 am,.string ⟨ky.toArray⟩,.string ⟨vl.toArray⟩,.slice B mm.length m] 43
   generalize w.alloc (.cells #[.int .i64 1,.string ⟨fr.toArray⟩,.int .i64 sq,.string ⟨dt.toArray⟩,.int .i64 am,.string ⟨ky.toArray⟩,.string ⟨vl.toArray⟩,.slice B mm.length m] 43) = W0 at F0 ⊢
   generalize w.heap.size = xb at F0 ⊢
   have k0_0 : W0.cell? ⟨xb,0,none⟩ = some (.int .i64 1):=F0.out.cell 0 0 rfl rfl; have k0_1 : W0.cell? ⟨xb,1,none⟩ = some (.string ⟨fr.toArray⟩):=F0.out.cell 0 1 rfl rfl; have k0_2 : W0.cell? ⟨xb,2,none⟩ = some (.int .i64 sq):=F0.out.cell 0 2 rfl rfl; have k0_3 : W0.cell? ⟨xb,3,none⟩ = some (.string ⟨dt.toArray⟩):=F0.out.cell 0 3 rfl rfl; have k0_4 : W0.cell? ⟨xb,4,none⟩ = some (.int .i64 am):=F0.out.cell 0 4 rfl rfl; have k0_5 : W0.cell? ⟨xb,5,none⟩ = some (.string ⟨ky.toArray⟩):=F0.out.cell 0 5 rfl rfl; have k0_6 : W0.cell? ⟨xb,6,none⟩ = some (.string ⟨vl.toArray⟩):=F0.out.cell 0 6 rfl rfl; have k0_7 : W0.cell? ⟨xb,7,none⟩ = some (.slice B mm.length m):=F0.out.cell 0 7 rfl rfl
   go_wp2_with fail
   refine (HFn.out _ F0.out.b).mono ?_
   rintro e w1 ⟨rfl,hb⟩
   have F1:=Live.hb F0 hb
   clear hb F0 HFn k0_0 k0_1 k0_2 k0_3 k0_4 k0_5 k0_6 k0_7
   have k0_0 : w1.cell? ⟨xb,0,none⟩ = some (.int .i64 1):=F1.out.cell 0 0 rfl rfl; have k0_1 : w1.cell? ⟨xb,1,none⟩ = some (.string ⟨fr.toArray⟩):=F1.out.cell 0 1 rfl rfl; have k0_2 : w1.cell? ⟨xb,2,none⟩ = some (.int .i64 sq):=F1.out.cell 0 2 rfl rfl; have k0_3 : w1.cell? ⟨xb,3,none⟩ = some (.string ⟨dt.toArray⟩):=F1.out.cell 0 3 rfl rfl; have k0_4 : w1.cell? ⟨xb,4,none⟩ = some (.int .i64 am):=F1.out.cell 0 4 rfl rfl; have k0_5 : w1.cell? ⟨xb,5,none⟩ = some (.string ⟨ky.toArray⟩):=F1.out.cell 0 5 rfl rfl; have k0_6 : w1.cell? ⟨xb,6,none⟩ = some (.string ⟨vl.toArray⟩):=F1.out.cell 0 6 rfl rfl; have k0_7 : w1.cell? ⟨xb,7,none⟩ = some (.slice B mm.length m):=F1.out.cell 0 7 rfl rfl
   go_wp2_with fail
   refine (HAf.out _ F1.out.b).mono ?_
   rintro e w2 ⟨rfl,hb⟩
   have F2:=Live.hb F1 hb
   clear hb F1 HAf k0_0 k0_1 k0_2 k0_3 k0_4 k0_5 k0_6 k0_7
   go_upto_region 4 with fail
   have F3:=Live.ha F2 #[.string ⟨fr.toArray⟩,.int .i64 (f1 : Int),.int .i64 (f2 : Int)] 56
   generalize w2.alloc (.cells #[.string ⟨fr.toArray⟩,.int .i64 (f1 : Int),.int .i64 (f2 : Int)] 56) = w3 at F3 ⊢
   generalize w2.heap.size = fb at F3 ⊢
   clear F2
   have k0_0 : w3.cell? ⟨fb,0,none⟩ = some (.string ⟨fr.toArray⟩):=F3.out.cell 0 0 rfl rfl; have k0_1 : w3.cell? ⟨fb,1,none⟩ = some (.int .i64 (f1 : Int)):=F3.out.cell 0 1 rfl rfl; have k0_2 : w3.cell? ⟨fb,2,none⟩ = some (.int .i64 (f2 : Int)):=F3.out.cell 0 2 rfl rfl
   go_upto_region 5 with fail
   have F4:=Live.ha F3 #[.string ⟨fr.toArray⟩,.int .i64 (f1 : Int),.int .i64 (f2 : Int)] 56
   generalize w3.alloc (.cells #[.string ⟨fr.toArray⟩,.int .i64 (f1 : Int),.int .i64 (f2 : Int)] 56) = w4 at F4 ⊢
   generalize w3.heap.size = tb at F4 ⊢
   clear F3 k0_0 k0_1 k0_2
   have k0_0 : w4.cell? ⟨tb,0,none⟩ = some (.string ⟨fr.toArray⟩):=F4.out.cell 0 0 rfl rfl; have k0_1 : w4.cell? ⟨tb,1,none⟩ = some (.int .i64 (f1 : Int)):=F4.out.cell 0 1 rfl rfl; have k0_2 : w4.cell? ⟨tb,2,none⟩ = some (.int .i64 (f2 : Int)):=F4.out.cell 0 2 rfl rfl
   have k1_0 : w4.cell? ⟨fb,0,none⟩ = some (.string ⟨fr.toArray⟩):=F4.out.cell 1 0 rfl rfl; have k1_1 : w4.cell? ⟨fb,1,none⟩ = some (.int .i64 (f1 : Int)):=F4.out.cell 1 1 rfl rfl; have k1_2 : w4.cell? ⟨fb,2,none⟩ = some (.int .i64 (f2 : Int)):=F4.out.cell 1 2 rfl rfl
   have k2_0 : w4.cell? ⟨xb,0,none⟩ = some (.int .i64 1):=F4.out.cell 2 0 rfl rfl; have k2_1 : w4.cell? ⟨xb,1,none⟩ = some (.string ⟨fr.toArray⟩):=F4.out.cell 2 1 rfl rfl; have k2_2 : w4.cell? ⟨xb,2,none⟩ = some (.int .i64 sq):=F4.out.cell 2 2 rfl rfl; have k2_3 : w4.cell? ⟨xb,3,none⟩ = some (.string ⟨dt.toArray⟩):=F4.out.cell 2 3 rfl rfl; have k2_4 : w4.cell? ⟨xb,4,none⟩ = some (.int .i64 am):=F4.out.cell 2 4 rfl rfl; have k2_5 : w4.cell? ⟨xb,5,none⟩ = some (.string ⟨ky.toArray⟩):=F4.out.cell 2 5 rfl rfl; have k2_6 : w4.cell? ⟨xb,6,none⟩ = some (.string ⟨vl.toArray⟩):=F4.out.cell 2 6 rfl rfl; have k2_7 : w4.cell? ⟨xb,7,none⟩ = some (.slice B mm.length m):=F4.out.cell 2 7 rfl rfl
   go_wp2_with fail
   refine (HAd.out _ F4.out.b).mono ?_
   rintro e w5 ⟨rfl,hb⟩
   have F5:=Live.hb F4 hb
   clear hb F4 HAd k0_0 k0_1 k0_2 k1_0 k1_1 k1_2 k2_0 k2_1 k2_2 k2_3 k2_4 k2_5 k2_6 k2_7
   have fz0 : w5.frozen? ⟨tb,0,none⟩ = false:=F5.out.frozen 0 0 rfl
   have fz1 : w5.frozen? ⟨tb,1,none⟩ = false:=F5.out.frozen 0 1 rfl
   have fz2 : w5.frozen? ⟨tb,2,none⟩ = false:=F5.out.frozen 0 2 rfl
   have y0 : w5.cell? ⟨tb,0,none⟩ = some (.string ⟨fr.toArray⟩):=F5.out.cell 0 0 rfl rfl
   have y1 : w5.cell? ⟨tb,1,none⟩ = some (.int .i64 (f1 : Int)):=F5.out.cell 0 1 rfl rfl
   have y2 : w5.cell? ⟨tb,2,none⟩ = some (.int .i64 (f2 : Int)):=F5.out.cell 0 2 rfl rfl
   go_upto_region 7 with fail
   have F6 : Hid (Live w (((w5.setCell ⟨tb,0,none⟩ (.string ⟨dt.toArray⟩)).setCell ⟨tb,1,none⟩ (.int .i64 (t1 : Int))).setCell ⟨tb,2,none⟩ (.int .i64 (t2 : Int))) [(tb,56,#[.string ⟨dt.toArray⟩,.int .i64 (t1 : Int),.int .i64 (t2 : Int)]),(fb,56,#[.string ⟨fr.toArray⟩,.int .i64 (f1 : Int),.int .i64 (f2 : Int)]),(xb,43,#[.int .i64 1,.string ⟨fr.toArray⟩,.int .i64 sq,.string ⟨dt.toArray⟩,.int .i64 am,.string ⟨ky.toArray⟩,.string ⟨vl.toArray⟩,.slice B mm.length m])]):=Lib.hid (((F5.out.set 0 0 _ rfl).set 0 1 _ rfl).set 0 2 _ rfl)
   generalize ((w5.setCell ⟨tb,0,none⟩ (.string ⟨dt.toArray⟩)).setCell ⟨tb,1,none⟩ (.int .i64 (t1 : Int))).setCell ⟨tb,2,none⟩ (.int .i64 (t2 : Int)) = w6 at F6 ⊢
   clear F5 fz0 fz1 fz2 y0 y1 y2
   have k0_0 : w6.cell? ⟨tb,0,none⟩ = some (.string ⟨dt.toArray⟩):=F6.out.cell 0 0 rfl rfl; have k0_1 : w6.cell? ⟨tb,1,none⟩ = some (.int .i64 (t1 : Int)):=F6.out.cell 0 1 rfl rfl; have k0_2 : w6.cell? ⟨tb,2,none⟩ = some (.int .i64 (t2 : Int)):=F6.out.cell 0 2 rfl rfl
   have k1_0 : w6.cell? ⟨fb,0,none⟩ = some (.string ⟨fr.toArray⟩):=F6.out.cell 1 0 rfl rfl; have k1_1 : w6.cell? ⟨fb,1,none⟩ = some (.int .i64 (f1 : Int)):=F6.out.cell 1 1 rfl rfl; have k1_2 : w6.cell? ⟨fb,2,none⟩ = some (.int .i64 (f2 : Int)):=F6.out.cell 1 2 rfl rfl
   have k2_0 : w6.cell? ⟨xb,0,none⟩ = some (.int .i64 1):=F6.out.cell 2 0 rfl rfl; have k2_1 : w6.cell? ⟨xb,1,none⟩ = some (.string ⟨fr.toArray⟩):=F6.out.cell 2 1 rfl rfl; have k2_2 : w6.cell? ⟨xb,2,none⟩ = some (.int .i64 sq):=F6.out.cell 2 2 rfl rfl; have k2_3 : w6.cell? ⟨xb,3,none⟩ = some (.string ⟨dt.toArray⟩):=F6.out.cell 2 3 rfl rfl; have k2_4 : w6.cell? ⟨xb,4,none⟩ = some (.int .i64 am):=F6.out.cell 2 4 rfl rfl; have k2_5 : w6.cell? ⟨xb,5,none⟩ = some (.string ⟨ky.toArray⟩):=F6.out.cell 2 5 rfl rfl; have k2_6 : w6.cell? ⟨xb,6,none⟩ = some (.string ⟨vl.toArray⟩):=F6.out.cell 2 6 rfl rfl; have k2_7 : w6.cell? ⟨xb,7,none⟩ = some (.slice B mm.length m):=F6.out.cell 2 7 rfl rfl
   go_wp2_with fail
   exact HP.out t 160 none 0 0 _ HE.out F6.out.b (fun h=>absurd h (by decide)) (fun _=>rfl)
  subst hs
  have hs1 : ((f2 : Int) != f2) = false:=by simp
  by_cases hm : f2 = Ex.maxA
  ·have hm1 : ((f2 : Int) == 1099511627776) = true:=by rw [hm]; rfl
   rw [if_pos (Or.inr hm)] at hX2
   have HE : Hid (X = (t,160)):=Lib.hid hX2.symm
   clear hX2 hsp hx hf hle hm htt htl ha1 ha2 hnd
   go_enter Tryz.func18,Tryz.ntmps18
   go_upto_region 1 with fail
   have F0:=Live.ha (Lib.hid (Live.start w)) #[.int .i64 1,.string ⟨fr.toArray⟩,.int .i64 (f2 : Int),.string ⟨dt.toArray⟩,.int .i64 am,.string ⟨ky.toArray⟩,.string ⟨vl.toArray⟩,.slice B mm.length m] 43
   generalize w.alloc (.cells #[.int .i64 1,.string ⟨fr.toArray⟩,.int .i64 (f2 : Int),.string ⟨dt.toArray⟩,.int .i64 am,.string ⟨ky.toArray⟩,.string ⟨vl.toArray⟩,.slice B mm.length m] 43) = W0 at F0 ⊢
   generalize w.heap.size = xb at F0 ⊢
   have k0_0 : W0.cell? ⟨xb,0,none⟩ = some (.int .i64 1):=F0.out.cell 0 0 rfl rfl; have k0_1 : W0.cell? ⟨xb,1,none⟩ = some (.string ⟨fr.toArray⟩):=F0.out.cell 0 1 rfl rfl; have k0_2 : W0.cell? ⟨xb,2,none⟩ = some (.int .i64 (f2 : Int)):=F0.out.cell 0 2 rfl rfl; have k0_3 : W0.cell? ⟨xb,3,none⟩ = some (.string ⟨dt.toArray⟩):=F0.out.cell 0 3 rfl rfl; have k0_4 : W0.cell? ⟨xb,4,none⟩ = some (.int .i64 am):=F0.out.cell 0 4 rfl rfl; have k0_5 : W0.cell? ⟨xb,5,none⟩ = some (.string ⟨ky.toArray⟩):=F0.out.cell 0 5 rfl rfl; have k0_6 : W0.cell? ⟨xb,6,none⟩ = some (.string ⟨vl.toArray⟩):=F0.out.cell 0 6 rfl rfl; have k0_7 : W0.cell? ⟨xb,7,none⟩ = some (.slice B mm.length m):=F0.out.cell 0 7 rfl rfl
   go_wp2_with fail
   refine (HFn.out _ F0.out.b).mono ?_
   rintro e w1 ⟨rfl,hb⟩
   have F1:=Live.hb F0 hb
   clear hb F0 HFn k0_0 k0_1 k0_2 k0_3 k0_4 k0_5 k0_6 k0_7
   have k0_0 : w1.cell? ⟨xb,0,none⟩ = some (.int .i64 1):=F1.out.cell 0 0 rfl rfl; have k0_1 : w1.cell? ⟨xb,1,none⟩ = some (.string ⟨fr.toArray⟩):=F1.out.cell 0 1 rfl rfl; have k0_2 : w1.cell? ⟨xb,2,none⟩ = some (.int .i64 (f2 : Int)):=F1.out.cell 0 2 rfl rfl; have k0_3 : w1.cell? ⟨xb,3,none⟩ = some (.string ⟨dt.toArray⟩):=F1.out.cell 0 3 rfl rfl; have k0_4 : w1.cell? ⟨xb,4,none⟩ = some (.int .i64 am):=F1.out.cell 0 4 rfl rfl; have k0_5 : w1.cell? ⟨xb,5,none⟩ = some (.string ⟨ky.toArray⟩):=F1.out.cell 0 5 rfl rfl; have k0_6 : w1.cell? ⟨xb,6,none⟩ = some (.string ⟨vl.toArray⟩):=F1.out.cell 0 6 rfl rfl; have k0_7 : w1.cell? ⟨xb,7,none⟩ = some (.slice B mm.length m):=F1.out.cell 0 7 rfl rfl
   go_wp2_with fail
   refine (HAf.out _ F1.out.b).mono ?_
   rintro e w2 ⟨rfl,hb⟩
   have F2:=Live.hb F1 hb
   clear hb F1 HAf k0_0 k0_1 k0_2 k0_3 k0_4 k0_5 k0_6 k0_7
   go_upto_region 4 with fail
   have F3:=Live.ha F2 #[.string ⟨fr.toArray⟩,.int .i64 (f1 : Int),.int .i64 (f2 : Int)] 56
   generalize w2.alloc (.cells #[.string ⟨fr.toArray⟩,.int .i64 (f1 : Int),.int .i64 (f2 : Int)] 56) = w3 at F3 ⊢
   generalize w2.heap.size = fb at F3 ⊢
   clear F2
   have k0_0 : w3.cell? ⟨fb,0,none⟩ = some (.string ⟨fr.toArray⟩):=F3.out.cell 0 0 rfl rfl; have k0_1 : w3.cell? ⟨fb,1,none⟩ = some (.int .i64 (f1 : Int)):=F3.out.cell 0 1 rfl rfl; have k0_2 : w3.cell? ⟨fb,2,none⟩ = some (.int .i64 (f2 : Int)):=F3.out.cell 0 2 rfl rfl
   go_upto_region 5 with fail
   have F4:=Live.ha F3 #[.string ⟨fr.toArray⟩,.int .i64 (f1 : Int),.int .i64 (f2 : Int)] 56
   generalize w3.alloc (.cells #[.string ⟨fr.toArray⟩,.int .i64 (f1 : Int),.int .i64 (f2 : Int)] 56) = w4 at F4 ⊢
   generalize w3.heap.size = tb at F4 ⊢
   clear F3 k0_0 k0_1 k0_2
   have k0_0 : w4.cell? ⟨tb,0,none⟩ = some (.string ⟨fr.toArray⟩):=F4.out.cell 0 0 rfl rfl; have k0_1 : w4.cell? ⟨tb,1,none⟩ = some (.int .i64 (f1 : Int)):=F4.out.cell 0 1 rfl rfl; have k0_2 : w4.cell? ⟨tb,2,none⟩ = some (.int .i64 (f2 : Int)):=F4.out.cell 0 2 rfl rfl
   have k1_0 : w4.cell? ⟨fb,0,none⟩ = some (.string ⟨fr.toArray⟩):=F4.out.cell 1 0 rfl rfl; have k1_1 : w4.cell? ⟨fb,1,none⟩ = some (.int .i64 (f1 : Int)):=F4.out.cell 1 1 rfl rfl; have k1_2 : w4.cell? ⟨fb,2,none⟩ = some (.int .i64 (f2 : Int)):=F4.out.cell 1 2 rfl rfl
   have k2_0 : w4.cell? ⟨xb,0,none⟩ = some (.int .i64 1):=F4.out.cell 2 0 rfl rfl; have k2_1 : w4.cell? ⟨xb,1,none⟩ = some (.string ⟨fr.toArray⟩):=F4.out.cell 2 1 rfl rfl; have k2_2 : w4.cell? ⟨xb,2,none⟩ = some (.int .i64 (f2 : Int)):=F4.out.cell 2 2 rfl rfl; have k2_3 : w4.cell? ⟨xb,3,none⟩ = some (.string ⟨dt.toArray⟩):=F4.out.cell 2 3 rfl rfl; have k2_4 : w4.cell? ⟨xb,4,none⟩ = some (.int .i64 am):=F4.out.cell 2 4 rfl rfl; have k2_5 : w4.cell? ⟨xb,5,none⟩ = some (.string ⟨ky.toArray⟩):=F4.out.cell 2 5 rfl rfl; have k2_6 : w4.cell? ⟨xb,6,none⟩ = some (.string ⟨vl.toArray⟩):=F4.out.cell 2 6 rfl rfl; have k2_7 : w4.cell? ⟨xb,7,none⟩ = some (.slice B mm.length m):=F4.out.cell 2 7 rfl rfl
   go_wp2_with fail
   refine (HAd.out _ F4.out.b).mono ?_
   rintro e w5 ⟨rfl,hb⟩
   have F5:=Live.hb F4 hb
   clear hb F4 HAd k0_0 k0_1 k0_2 k1_0 k1_1 k1_2 k2_0 k2_1 k2_2 k2_3 k2_4 k2_5 k2_6 k2_7
   have fz0 : w5.frozen? ⟨tb,0,none⟩ = false:=F5.out.frozen 0 0 rfl
   have fz1 : w5.frozen? ⟨tb,1,none⟩ = false:=F5.out.frozen 0 1 rfl
   have fz2 : w5.frozen? ⟨tb,2,none⟩ = false:=F5.out.frozen 0 2 rfl
   have y0 : w5.cell? ⟨tb,0,none⟩ = some (.string ⟨fr.toArray⟩):=F5.out.cell 0 0 rfl rfl
   have y1 : w5.cell? ⟨tb,1,none⟩ = some (.int .i64 (f1 : Int)):=F5.out.cell 0 1 rfl rfl
   have y2 : w5.cell? ⟨tb,2,none⟩ = some (.int .i64 (f2 : Int)):=F5.out.cell 0 2 rfl rfl
   go_upto_region 7 with fail
   have F6 : Hid (Live w (((w5.setCell ⟨tb,0,none⟩ (.string ⟨dt.toArray⟩)).setCell ⟨tb,1,none⟩ (.int .i64 (t1 : Int))).setCell ⟨tb,2,none⟩ (.int .i64 (t2 : Int))) [(tb,56,#[.string ⟨dt.toArray⟩,.int .i64 (t1 : Int),.int .i64 (t2 : Int)]),(fb,56,#[.string ⟨fr.toArray⟩,.int .i64 (f1 : Int),.int .i64 (f2 : Int)]),(xb,43,#[.int .i64 1,.string ⟨fr.toArray⟩,.int .i64 (f2 : Int),.string ⟨dt.toArray⟩,.int .i64 am,.string ⟨ky.toArray⟩,.string ⟨vl.toArray⟩,.slice B mm.length m])]):=Lib.hid (((F5.out.set 0 0 _ rfl).set 0 1 _ rfl).set 0 2 _ rfl)
   generalize ((w5.setCell ⟨tb,0,none⟩ (.string ⟨dt.toArray⟩)).setCell ⟨tb,1,none⟩ (.int .i64 (t1 : Int))).setCell ⟨tb,2,none⟩ (.int .i64 (t2 : Int)) = w6 at F6 ⊢
   clear F5 fz0 fz1 fz2 y0 y1 y2
   have k0_0 : w6.cell? ⟨tb,0,none⟩ = some (.string ⟨dt.toArray⟩):=F6.out.cell 0 0 rfl rfl; have k0_1 : w6.cell? ⟨tb,1,none⟩ = some (.int .i64 (t1 : Int)):=F6.out.cell 0 1 rfl rfl; have k0_2 : w6.cell? ⟨tb,2,none⟩ = some (.int .i64 (t2 : Int)):=F6.out.cell 0 2 rfl rfl
   have k1_0 : w6.cell? ⟨fb,0,none⟩ = some (.string ⟨fr.toArray⟩):=F6.out.cell 1 0 rfl rfl; have k1_1 : w6.cell? ⟨fb,1,none⟩ = some (.int .i64 (f1 : Int)):=F6.out.cell 1 1 rfl rfl; have k1_2 : w6.cell? ⟨fb,2,none⟩ = some (.int .i64 (f2 : Int)):=F6.out.cell 1 2 rfl rfl
   have k2_0 : w6.cell? ⟨xb,0,none⟩ = some (.int .i64 1):=F6.out.cell 2 0 rfl rfl; have k2_1 : w6.cell? ⟨xb,1,none⟩ = some (.string ⟨fr.toArray⟩):=F6.out.cell 2 1 rfl rfl; have k2_2 : w6.cell? ⟨xb,2,none⟩ = some (.int .i64 (f2 : Int)):=F6.out.cell 2 2 rfl rfl; have k2_3 : w6.cell? ⟨xb,3,none⟩ = some (.string ⟨dt.toArray⟩):=F6.out.cell 2 3 rfl rfl; have k2_4 : w6.cell? ⟨xb,4,none⟩ = some (.int .i64 am):=F6.out.cell 2 4 rfl rfl; have k2_5 : w6.cell? ⟨xb,5,none⟩ = some (.string ⟨ky.toArray⟩):=F6.out.cell 2 5 rfl rfl; have k2_6 : w6.cell? ⟨xb,6,none⟩ = some (.string ⟨vl.toArray⟩):=F6.out.cell 2 6 rfl rfl; have k2_7 : w6.cell? ⟨xb,7,none⟩ = some (.slice B mm.length m):=F6.out.cell 2 7 rfl rfl
   go_wp2_with fail
   exact HP.out t 160 none 0 0 _ HE.out F6.out.b (fun h=>absurd h (by decide)) (fun _=>rfl)
  have hm1 : ((f2 : Int) == 1099511627776) = false:=by rw [beq_eq_false_iff_ne]; unfold Ex.maxA at hm; omega
  rw [if_neg (by rintro (h | h); exact h rfl; exact hm h)] at hX2
  have HF1:=Lib.hid hle.1
  have HF2:=Lib.hid hle.2
  have hwq : IntKind.i64.wrap ((f2 : Int) + 1) = (f2 : Int) + 1:=IntWalk.i64_in _ (by unfold Ex.maxA at hle; omega)
  have hgd:=Ex.kindW_good HGo.out hx (f:=(f1,f2)) (tt:=(t1,t2)) hle.1 htl
  obtain ⟨amn,rfl⟩:=Int.eq_ofNat_of_zero_le (show 0 ≤ am by omega)
  have hkw:=Ex.kindW_1 (t:=t) (x:=⟨1,fr,f2,dt,(amn : Int),ky,vl,mm⟩) (f:=(f1,f2)) (tt:=(t1,t2)) rfl
  simp only [Int.toNat_natCast] at hkw
  by_cases g1 : (f1 : Int) < (amn : Int)
  ·rw [if_pos g1] at hkw
   have HE : Hid (X = (t,161)):=Lib.hid (by rw [← hX2,hkw]; rfl)
   clear hkw hX2 hgd hsp hx hf hle hm htt htl ha1 ha2 hnd
   go_enter Tryz.func18,Tryz.ntmps18
   go_upto_region 1 with fail
   have F0:=Live.ha (Lib.hid (Live.start w)) #[.int .i64 1,.string ⟨fr.toArray⟩,.int .i64 (f2 : Int),.string ⟨dt.toArray⟩,.int .i64 (amn : Int),.string ⟨ky.toArray⟩,.string ⟨vl.toArray⟩,.slice B mm.length m] 43
   generalize w.alloc (.cells #[.int .i64 1,.string ⟨fr.toArray⟩,.int .i64 (f2 : Int),.string ⟨dt.toArray⟩,.int .i64 (amn : Int),.string ⟨ky.toArray⟩,.string ⟨vl.toArray⟩,.slice B mm.length m] 43) = W0 at F0 ⊢
   generalize w.heap.size = xb at F0 ⊢
   have k0_0 : W0.cell? ⟨xb,0,none⟩ = some (.int .i64 1):=F0.out.cell 0 0 rfl rfl; have k0_1 : W0.cell? ⟨xb,1,none⟩ = some (.string ⟨fr.toArray⟩):=F0.out.cell 0 1 rfl rfl; have k0_2 : W0.cell? ⟨xb,2,none⟩ = some (.int .i64 (f2 : Int)):=F0.out.cell 0 2 rfl rfl; have k0_3 : W0.cell? ⟨xb,3,none⟩ = some (.string ⟨dt.toArray⟩):=F0.out.cell 0 3 rfl rfl; have k0_4 : W0.cell? ⟨xb,4,none⟩ = some (.int .i64 (amn : Int)):=F0.out.cell 0 4 rfl rfl; have k0_5 : W0.cell? ⟨xb,5,none⟩ = some (.string ⟨ky.toArray⟩):=F0.out.cell 0 5 rfl rfl; have k0_6 : W0.cell? ⟨xb,6,none⟩ = some (.string ⟨vl.toArray⟩):=F0.out.cell 0 6 rfl rfl; have k0_7 : W0.cell? ⟨xb,7,none⟩ = some (.slice B mm.length m):=F0.out.cell 0 7 rfl rfl
   go_wp2_with fail
   refine (HFn.out _ F0.out.b).mono ?_
   rintro e w1 ⟨rfl,hb⟩
   have F1:=Live.hb F0 hb
   clear hb F0 HFn k0_0 k0_1 k0_2 k0_3 k0_4 k0_5 k0_6 k0_7
   have k0_0 : w1.cell? ⟨xb,0,none⟩ = some (.int .i64 1):=F1.out.cell 0 0 rfl rfl; have k0_1 : w1.cell? ⟨xb,1,none⟩ = some (.string ⟨fr.toArray⟩):=F1.out.cell 0 1 rfl rfl; have k0_2 : w1.cell? ⟨xb,2,none⟩ = some (.int .i64 (f2 : Int)):=F1.out.cell 0 2 rfl rfl; have k0_3 : w1.cell? ⟨xb,3,none⟩ = some (.string ⟨dt.toArray⟩):=F1.out.cell 0 3 rfl rfl; have k0_4 : w1.cell? ⟨xb,4,none⟩ = some (.int .i64 (amn : Int)):=F1.out.cell 0 4 rfl rfl; have k0_5 : w1.cell? ⟨xb,5,none⟩ = some (.string ⟨ky.toArray⟩):=F1.out.cell 0 5 rfl rfl; have k0_6 : w1.cell? ⟨xb,6,none⟩ = some (.string ⟨vl.toArray⟩):=F1.out.cell 0 6 rfl rfl; have k0_7 : w1.cell? ⟨xb,7,none⟩ = some (.slice B mm.length m):=F1.out.cell 0 7 rfl rfl
   go_wp2_with fail
   refine (HAf.out _ F1.out.b).mono ?_
   rintro e w2 ⟨rfl,hb⟩
   have F2:=Live.hb F1 hb
   clear hb F1 HAf k0_0 k0_1 k0_2 k0_3 k0_4 k0_5 k0_6 k0_7
   go_upto_region 4 with fail
   have F3:=Live.ha F2 #[.string ⟨fr.toArray⟩,.int .i64 (f1 : Int),.int .i64 (f2 : Int)] 56
   generalize w2.alloc (.cells #[.string ⟨fr.toArray⟩,.int .i64 (f1 : Int),.int .i64 (f2 : Int)] 56) = w3 at F3 ⊢
   generalize w2.heap.size = fb at F3 ⊢
   clear F2
   have k0_0 : w3.cell? ⟨fb,0,none⟩ = some (.string ⟨fr.toArray⟩):=F3.out.cell 0 0 rfl rfl; have k0_1 : w3.cell? ⟨fb,1,none⟩ = some (.int .i64 (f1 : Int)):=F3.out.cell 0 1 rfl rfl; have k0_2 : w3.cell? ⟨fb,2,none⟩ = some (.int .i64 (f2 : Int)):=F3.out.cell 0 2 rfl rfl
   go_upto_region 5 with fail
   have F4:=Live.ha F3 #[.string ⟨fr.toArray⟩,.int .i64 (f1 : Int),.int .i64 (f2 : Int)] 56
   generalize w3.alloc (.cells #[.string ⟨fr.toArray⟩,.int .i64 (f1 : Int),.int .i64 (f2 : Int)] 56) = w4 at F4 ⊢
   generalize w3.heap.size = tb at F4 ⊢
   clear F3 k0_0 k0_1 k0_2
   have k0_0 : w4.cell? ⟨tb,0,none⟩ = some (.string ⟨fr.toArray⟩):=F4.out.cell 0 0 rfl rfl; have k0_1 : w4.cell? ⟨tb,1,none⟩ = some (.int .i64 (f1 : Int)):=F4.out.cell 0 1 rfl rfl; have k0_2 : w4.cell? ⟨tb,2,none⟩ = some (.int .i64 (f2 : Int)):=F4.out.cell 0 2 rfl rfl
   have k1_0 : w4.cell? ⟨fb,0,none⟩ = some (.string ⟨fr.toArray⟩):=F4.out.cell 1 0 rfl rfl; have k1_1 : w4.cell? ⟨fb,1,none⟩ = some (.int .i64 (f1 : Int)):=F4.out.cell 1 1 rfl rfl; have k1_2 : w4.cell? ⟨fb,2,none⟩ = some (.int .i64 (f2 : Int)):=F4.out.cell 1 2 rfl rfl
   have k2_0 : w4.cell? ⟨xb,0,none⟩ = some (.int .i64 1):=F4.out.cell 2 0 rfl rfl; have k2_1 : w4.cell? ⟨xb,1,none⟩ = some (.string ⟨fr.toArray⟩):=F4.out.cell 2 1 rfl rfl; have k2_2 : w4.cell? ⟨xb,2,none⟩ = some (.int .i64 (f2 : Int)):=F4.out.cell 2 2 rfl rfl; have k2_3 : w4.cell? ⟨xb,3,none⟩ = some (.string ⟨dt.toArray⟩):=F4.out.cell 2 3 rfl rfl; have k2_4 : w4.cell? ⟨xb,4,none⟩ = some (.int .i64 (amn : Int)):=F4.out.cell 2 4 rfl rfl; have k2_5 : w4.cell? ⟨xb,5,none⟩ = some (.string ⟨ky.toArray⟩):=F4.out.cell 2 5 rfl rfl; have k2_6 : w4.cell? ⟨xb,6,none⟩ = some (.string ⟨vl.toArray⟩):=F4.out.cell 2 6 rfl rfl; have k2_7 : w4.cell? ⟨xb,7,none⟩ = some (.slice B mm.length m):=F4.out.cell 2 7 rfl rfl
   go_wp2_with fail
   refine (HAd.out _ F4.out.b).mono ?_
   rintro e w5 ⟨rfl,hb⟩
   have F5:=Live.hb F4 hb
   clear hb F4 HAd k0_0 k0_1 k0_2 k1_0 k1_1 k1_2 k2_0 k2_1 k2_2 k2_3 k2_4 k2_5 k2_6 k2_7
   have fz0 : w5.frozen? ⟨tb,0,none⟩ = false:=F5.out.frozen 0 0 rfl
   have fz1 : w5.frozen? ⟨tb,1,none⟩ = false:=F5.out.frozen 0 1 rfl
   have fz2 : w5.frozen? ⟨tb,2,none⟩ = false:=F5.out.frozen 0 2 rfl
   have y0 : w5.cell? ⟨tb,0,none⟩ = some (.string ⟨fr.toArray⟩):=F5.out.cell 0 0 rfl rfl
   have y1 : w5.cell? ⟨tb,1,none⟩ = some (.int .i64 (f1 : Int)):=F5.out.cell 0 1 rfl rfl
   have y2 : w5.cell? ⟨tb,2,none⟩ = some (.int .i64 (f2 : Int)):=F5.out.cell 0 2 rfl rfl
   go_upto_region 7 with fail
   have F6 : Hid (Live w (((w5.setCell ⟨tb,0,none⟩ (.string ⟨dt.toArray⟩)).setCell ⟨tb,1,none⟩ (.int .i64 (t1 : Int))).setCell ⟨tb,2,none⟩ (.int .i64 (t2 : Int))) [(tb,56,#[.string ⟨dt.toArray⟩,.int .i64 (t1 : Int),.int .i64 (t2 : Int)]),(fb,56,#[.string ⟨fr.toArray⟩,.int .i64 (f1 : Int),.int .i64 (f2 : Int)]),(xb,43,#[.int .i64 1,.string ⟨fr.toArray⟩,.int .i64 (f2 : Int),.string ⟨dt.toArray⟩,.int .i64 (amn : Int),.string ⟨ky.toArray⟩,.string ⟨vl.toArray⟩,.slice B mm.length m])]):=Lib.hid (((F5.out.set 0 0 _ rfl).set 0 1 _ rfl).set 0 2 _ rfl)
   generalize ((w5.setCell ⟨tb,0,none⟩ (.string ⟨dt.toArray⟩)).setCell ⟨tb,1,none⟩ (.int .i64 (t1 : Int))).setCell ⟨tb,2,none⟩ (.int .i64 (t2 : Int)) = w6 at F6 ⊢
   clear F5 fz0 fz1 fz2 y0 y1 y2
   have k0_0 : w6.cell? ⟨tb,0,none⟩ = some (.string ⟨dt.toArray⟩):=F6.out.cell 0 0 rfl rfl; have k0_1 : w6.cell? ⟨tb,1,none⟩ = some (.int .i64 (t1 : Int)):=F6.out.cell 0 1 rfl rfl; have k0_2 : w6.cell? ⟨tb,2,none⟩ = some (.int .i64 (t2 : Int)):=F6.out.cell 0 2 rfl rfl
   have k1_0 : w6.cell? ⟨fb,0,none⟩ = some (.string ⟨fr.toArray⟩):=F6.out.cell 1 0 rfl rfl; have k1_1 : w6.cell? ⟨fb,1,none⟩ = some (.int .i64 (f1 : Int)):=F6.out.cell 1 1 rfl rfl; have k1_2 : w6.cell? ⟨fb,2,none⟩ = some (.int .i64 (f2 : Int)):=F6.out.cell 1 2 rfl rfl
   have k2_0 : w6.cell? ⟨xb,0,none⟩ = some (.int .i64 1):=F6.out.cell 2 0 rfl rfl; have k2_1 : w6.cell? ⟨xb,1,none⟩ = some (.string ⟨fr.toArray⟩):=F6.out.cell 2 1 rfl rfl; have k2_2 : w6.cell? ⟨xb,2,none⟩ = some (.int .i64 (f2 : Int)):=F6.out.cell 2 2 rfl rfl; have k2_3 : w6.cell? ⟨xb,3,none⟩ = some (.string ⟨dt.toArray⟩):=F6.out.cell 2 3 rfl rfl; have k2_4 : w6.cell? ⟨xb,4,none⟩ = some (.int .i64 (amn : Int)):=F6.out.cell 2 4 rfl rfl; have k2_5 : w6.cell? ⟨xb,5,none⟩ = some (.string ⟨ky.toArray⟩):=F6.out.cell 2 5 rfl rfl; have k2_6 : w6.cell? ⟨xb,6,none⟩ = some (.string ⟨vl.toArray⟩):=F6.out.cell 2 6 rfl rfl; have k2_7 : w6.cell? ⟨xb,7,none⟩ = some (.slice B mm.length m):=F6.out.cell 2 7 rfl rfl
   go_wp2_with fail
   exact HP.out t 161 none 0 0 _ HE.out F6.out.b (fun h=>absurd h (by decide)) (fun _=>rfl)
  rw [if_neg g1] at hkw
  by_cases g2 : dt = fr
  ·rw [if_pos g2] at hkw
   have HE : Hid (X = (Trie.put t (Nib.of (Ex.aKey fr)) (Ex.writA (f1,f2 + 1)),0)):=Lib.hid (by rw [← hX2,hkw]; exact if_pos rfl)
   have HGd : Hid (Trie.Good t ∧ Trie.count t ≤ 1000 ∧ f1 ≤ Ex.maxA):=Lib.hid ⟨HGo.out,by have:=HCn.out; omega,HF1.out⟩
   subst dt
   have g2b : (fr == fr) = true:=by simp
   have g1' : ((f1 : Int) < (amn : Int)) = False:=by simp; omega
   clear hkw hX2 hgd hsp hx hf hle hm htt htl ha1 ha2 hnd g1
   go_enter Tryz.func18,Tryz.ntmps18
   go_upto_region 1 with fail
   have F0:=Live.ha (Lib.hid (Live.start w)) #[.int .i64 1,.string ⟨fr.toArray⟩,.int .i64 (f2 : Int),.string ⟨fr.toArray⟩,.int .i64 (amn : Int),.string ⟨ky.toArray⟩,.string ⟨vl.toArray⟩,.slice B mm.length m] 43
   generalize w.alloc (.cells #[.int .i64 1,.string ⟨fr.toArray⟩,.int .i64 (f2 : Int),.string ⟨fr.toArray⟩,.int .i64 (amn : Int),.string ⟨ky.toArray⟩,.string ⟨vl.toArray⟩,.slice B mm.length m] 43) = W0 at F0 ⊢
   generalize w.heap.size = xb at F0 ⊢
   have k0_0 : W0.cell? ⟨xb,0,none⟩ = some (.int .i64 1):=F0.out.cell 0 0 rfl rfl; have k0_1 : W0.cell? ⟨xb,1,none⟩ = some (.string ⟨fr.toArray⟩):=F0.out.cell 0 1 rfl rfl; have k0_2 : W0.cell? ⟨xb,2,none⟩ = some (.int .i64 (f2 : Int)):=F0.out.cell 0 2 rfl rfl; have k0_3 : W0.cell? ⟨xb,3,none⟩ = some (.string ⟨fr.toArray⟩):=F0.out.cell 0 3 rfl rfl; have k0_4 : W0.cell? ⟨xb,4,none⟩ = some (.int .i64 (amn : Int)):=F0.out.cell 0 4 rfl rfl; have k0_5 : W0.cell? ⟨xb,5,none⟩ = some (.string ⟨ky.toArray⟩):=F0.out.cell 0 5 rfl rfl; have k0_6 : W0.cell? ⟨xb,6,none⟩ = some (.string ⟨vl.toArray⟩):=F0.out.cell 0 6 rfl rfl; have k0_7 : W0.cell? ⟨xb,7,none⟩ = some (.slice B mm.length m):=F0.out.cell 0 7 rfl rfl
   go_wp2_with fail
   refine (HFn.out _ F0.out.b).mono ?_
   rintro e w1 ⟨rfl,hb⟩
   have F1:=Live.hb F0 hb
   clear hb F0 HFn k0_0 k0_1 k0_2 k0_3 k0_4 k0_5 k0_6 k0_7
   have k0_0 : w1.cell? ⟨xb,0,none⟩ = some (.int .i64 1):=F1.out.cell 0 0 rfl rfl; have k0_1 : w1.cell? ⟨xb,1,none⟩ = some (.string ⟨fr.toArray⟩):=F1.out.cell 0 1 rfl rfl; have k0_2 : w1.cell? ⟨xb,2,none⟩ = some (.int .i64 (f2 : Int)):=F1.out.cell 0 2 rfl rfl; have k0_3 : w1.cell? ⟨xb,3,none⟩ = some (.string ⟨fr.toArray⟩):=F1.out.cell 0 3 rfl rfl; have k0_4 : w1.cell? ⟨xb,4,none⟩ = some (.int .i64 (amn : Int)):=F1.out.cell 0 4 rfl rfl; have k0_5 : w1.cell? ⟨xb,5,none⟩ = some (.string ⟨ky.toArray⟩):=F1.out.cell 0 5 rfl rfl; have k0_6 : w1.cell? ⟨xb,6,none⟩ = some (.string ⟨vl.toArray⟩):=F1.out.cell 0 6 rfl rfl; have k0_7 : w1.cell? ⟨xb,7,none⟩ = some (.slice B mm.length m):=F1.out.cell 0 7 rfl rfl
   go_wp2_with fail
   refine (HAf.out _ F1.out.b).mono ?_
   rintro e w2 ⟨rfl,hb⟩
   have F2:=Live.hb F1 hb
   clear hb F1 HAf k0_0 k0_1 k0_2 k0_3 k0_4 k0_5 k0_6 k0_7
   go_upto_region 4 with fail
   have F3:=Live.ha F2 #[.string ⟨fr.toArray⟩,.int .i64 (f1 : Int),.int .i64 (f2 : Int)] 56
   generalize w2.alloc (.cells #[.string ⟨fr.toArray⟩,.int .i64 (f1 : Int),.int .i64 (f2 : Int)] 56) = w3 at F3 ⊢
   generalize w2.heap.size = fb at F3 ⊢
   clear F2
   have k0_0 : w3.cell? ⟨fb,0,none⟩ = some (.string ⟨fr.toArray⟩):=F3.out.cell 0 0 rfl rfl; have k0_1 : w3.cell? ⟨fb,1,none⟩ = some (.int .i64 (f1 : Int)):=F3.out.cell 0 1 rfl rfl; have k0_2 : w3.cell? ⟨fb,2,none⟩ = some (.int .i64 (f2 : Int)):=F3.out.cell 0 2 rfl rfl
   go_upto_region 5 with fail
   have F4:=Live.ha F3 #[.string ⟨fr.toArray⟩,.int .i64 (f1 : Int),.int .i64 (f2 : Int)] 56
   generalize w3.alloc (.cells #[.string ⟨fr.toArray⟩,.int .i64 (f1 : Int),.int .i64 (f2 : Int)] 56) = w4 at F4 ⊢
   generalize w3.heap.size = tb at F4 ⊢
   clear F3 k0_0 k0_1 k0_2
   have k0_0 : w4.cell? ⟨tb,0,none⟩ = some (.string ⟨fr.toArray⟩):=F4.out.cell 0 0 rfl rfl; have k0_1 : w4.cell? ⟨tb,1,none⟩ = some (.int .i64 (f1 : Int)):=F4.out.cell 0 1 rfl rfl; have k0_2 : w4.cell? ⟨tb,2,none⟩ = some (.int .i64 (f2 : Int)):=F4.out.cell 0 2 rfl rfl
   have k1_0 : w4.cell? ⟨fb,0,none⟩ = some (.string ⟨fr.toArray⟩):=F4.out.cell 1 0 rfl rfl; have k1_1 : w4.cell? ⟨fb,1,none⟩ = some (.int .i64 (f1 : Int)):=F4.out.cell 1 1 rfl rfl; have k1_2 : w4.cell? ⟨fb,2,none⟩ = some (.int .i64 (f2 : Int)):=F4.out.cell 1 2 rfl rfl
   have k2_0 : w4.cell? ⟨xb,0,none⟩ = some (.int .i64 1):=F4.out.cell 2 0 rfl rfl; have k2_1 : w4.cell? ⟨xb,1,none⟩ = some (.string ⟨fr.toArray⟩):=F4.out.cell 2 1 rfl rfl; have k2_2 : w4.cell? ⟨xb,2,none⟩ = some (.int .i64 (f2 : Int)):=F4.out.cell 2 2 rfl rfl; have k2_3 : w4.cell? ⟨xb,3,none⟩ = some (.string ⟨fr.toArray⟩):=F4.out.cell 2 3 rfl rfl; have k2_4 : w4.cell? ⟨xb,4,none⟩ = some (.int .i64 (amn : Int)):=F4.out.cell 2 4 rfl rfl; have k2_5 : w4.cell? ⟨xb,5,none⟩ = some (.string ⟨ky.toArray⟩):=F4.out.cell 2 5 rfl rfl; have k2_6 : w4.cell? ⟨xb,6,none⟩ = some (.string ⟨vl.toArray⟩):=F4.out.cell 2 6 rfl rfl; have k2_7 : w4.cell? ⟨xb,7,none⟩ = some (.slice B mm.length m):=F4.out.cell 2 7 rfl rfl
   go_wp2_with fail
   refine (HAd.out _ F4.out.b).mono ?_
   rintro e w5 ⟨rfl,hb⟩
   have F5:=Live.hb F4 hb
   clear hb F4 HAd k0_0 k0_1 k0_2 k1_0 k1_1 k1_2 k2_0 k2_1 k2_2 k2_3 k2_4 k2_5 k2_6 k2_7
   have fz0 : w5.frozen? ⟨tb,0,none⟩ = false:=F5.out.frozen 0 0 rfl
   have fz1 : w5.frozen? ⟨tb,1,none⟩ = false:=F5.out.frozen 0 1 rfl
   have fz2 : w5.frozen? ⟨tb,2,none⟩ = false:=F5.out.frozen 0 2 rfl
   have y0 : w5.cell? ⟨tb,0,none⟩ = some (.string ⟨fr.toArray⟩):=F5.out.cell 0 0 rfl rfl
   have y1 : w5.cell? ⟨tb,1,none⟩ = some (.int .i64 (f1 : Int)):=F5.out.cell 0 1 rfl rfl
   have y2 : w5.cell? ⟨tb,2,none⟩ = some (.int .i64 (f2 : Int)):=F5.out.cell 0 2 rfl rfl
   go_upto_region 7 with fail
   have F6 : Hid (Live w (((w5.setCell ⟨tb,0,none⟩ (.string ⟨fr.toArray⟩)).setCell ⟨tb,1,none⟩ (.int .i64 (t1 : Int))).setCell ⟨tb,2,none⟩ (.int .i64 (t2 : Int))) [(tb,56,#[.string ⟨fr.toArray⟩,.int .i64 (t1 : Int),.int .i64 (t2 : Int)]),(fb,56,#[.string ⟨fr.toArray⟩,.int .i64 (f1 : Int),.int .i64 (f2 : Int)]),(xb,43,#[.int .i64 1,.string ⟨fr.toArray⟩,.int .i64 (f2 : Int),.string ⟨fr.toArray⟩,.int .i64 (amn : Int),.string ⟨ky.toArray⟩,.string ⟨vl.toArray⟩,.slice B mm.length m])]):=Lib.hid (((F5.out.set 0 0 _ rfl).set 0 1 _ rfl).set 0 2 _ rfl)
   generalize ((w5.setCell ⟨tb,0,none⟩ (.string ⟨fr.toArray⟩)).setCell ⟨tb,1,none⟩ (.int .i64 (t1 : Int))).setCell ⟨tb,2,none⟩ (.int .i64 (t2 : Int)) = w6 at F6 ⊢
   clear F5 fz0 fz1 fz2 y0 y1 y2
   have k0_0 : w6.cell? ⟨tb,0,none⟩ = some (.string ⟨fr.toArray⟩):=F6.out.cell 0 0 rfl rfl; have k0_1 : w6.cell? ⟨tb,1,none⟩ = some (.int .i64 (t1 : Int)):=F6.out.cell 0 1 rfl rfl; have k0_2 : w6.cell? ⟨tb,2,none⟩ = some (.int .i64 (t2 : Int)):=F6.out.cell 0 2 rfl rfl
   have k1_0 : w6.cell? ⟨fb,0,none⟩ = some (.string ⟨fr.toArray⟩):=F6.out.cell 1 0 rfl rfl; have k1_1 : w6.cell? ⟨fb,1,none⟩ = some (.int .i64 (f1 : Int)):=F6.out.cell 1 1 rfl rfl; have k1_2 : w6.cell? ⟨fb,2,none⟩ = some (.int .i64 (f2 : Int)):=F6.out.cell 1 2 rfl rfl
   have k2_0 : w6.cell? ⟨xb,0,none⟩ = some (.int .i64 1):=F6.out.cell 2 0 rfl rfl; have k2_1 : w6.cell? ⟨xb,1,none⟩ = some (.string ⟨fr.toArray⟩):=F6.out.cell 2 1 rfl rfl; have k2_2 : w6.cell? ⟨xb,2,none⟩ = some (.int .i64 (f2 : Int)):=F6.out.cell 2 2 rfl rfl; have k2_3 : w6.cell? ⟨xb,3,none⟩ = some (.string ⟨fr.toArray⟩):=F6.out.cell 2 3 rfl rfl; have k2_4 : w6.cell? ⟨xb,4,none⟩ = some (.int .i64 (amn : Int)):=F6.out.cell 2 4 rfl rfl; have k2_5 : w6.cell? ⟨xb,5,none⟩ = some (.string ⟨ky.toArray⟩):=F6.out.cell 2 5 rfl rfl; have k2_6 : w6.cell? ⟨xb,6,none⟩ = some (.string ⟨vl.toArray⟩):=F6.out.cell 2 6 rfl rfl; have k2_7 : w6.cell? ⟨xb,7,none⟩ = some (.slice B mm.length m):=F6.out.cell 2 7 rfl rfl
   clear k0_0 k0_1 k0_2 k1_0 k1_1 k1_2 k2_0 k2_1 k2_2 k2_3 k2_4 k2_5 k2_6 k2_7
   have k1_1 : w6.cell? ⟨fb,1,none⟩ = some (.int .i64 (f1 : Int)):=F6.out.cell 1 1 rfl rfl
   have k1_2 : w6.cell? ⟨fb,2,none⟩ = some (.int .i64 (f2 : Int)):=F6.out.cell 1 2 rfl rfl
   have k2_0 : w6.cell? ⟨xb,0,none⟩ = some (.int .i64 1):=F6.out.cell 2 0 rfl rfl
   have k2_1 : w6.cell? ⟨xb,1,none⟩ = some (.string ⟨fr.toArray⟩):=F6.out.cell 2 1 rfl rfl
   have k2_2 : w6.cell? ⟨xb,2,none⟩ = some (.int .i64 (f2 : Int)):=F6.out.cell 2 2 rfl rfl
   have k2_3 : w6.cell? ⟨xb,3,none⟩ = some (.string ⟨fr.toArray⟩):=F6.out.cell 2 3 rfl rfl
   have k2_4 : w6.cell? ⟨xb,4,none⟩ = some (.int .i64 (amn : Int)):=F6.out.cell 2 4 rfl rfl
   have HVf : Hid (∀ W,Calls Tryz.prog 55 #[.agg #[.string ⟨fr.toArray⟩,.int .i64 ((f1 : Nat) : Int),.int .i64 ((f2 + 1 : Nat) : Int)]] W (Ret W (.string ⟨(Ex.writA (f1,f2 + 1)).toArray⟩))):=Lib.hid (fun W=>ref16_Value W fr f1 (f2 + 1) (by have:=HGd.out.2.2; unfold Ex.maxA at this; omega) (by have:=HF2.out; unfold Ex.maxA at this; omega))
   have z02 : w6.cell? ⟨fb,2,none⟩ = some (.int .i64 (f2 : Int)):=F6.out.cell 1 2 rfl rfl
   have fz2 : w6.frozen? ⟨fb,2,none⟩ = false:=F6.out.frozen 1 2 rfl
   go_upto_region 33 with fail
   have F7:=Live.hs F6 1 2 (.int .i64 ((f2 : Int) + 1)) rfl
   simp only [List.set_cons_zero,List.setIfInBounds_toArray,List.set_cons_succ] at F7
   have I7:=Lib.hid (HIt.out.next F7.out.b)
   generalize w6.setCell ⟨fb,2,none⟩ _ = w7 at F7 I7 ⊢
   rw [show (f2 : Int) + 1 = ((f2 + 1 : Nat) : Int) by omega] at F7
   clear z02 fz2 F6
   have HPf : Hid (∀ W,Below w7.heap.size w7 W → Calls Tryz.prog 47 #[.slice A n c,.string ⟨(97 :: 58 :: fr).toArray⟩,.string ⟨(Ex.writA (f1,f2 + 1)).toArray⟩] W (DoIEnd W (Trie.put t (Nib.of (97 :: 58 :: fr)) (Ex.writA (f1,f2 + 1))) 0)):=Lib.hid (fun W hW=>items_Put W t HGd.out.1 HGd.out.2.1 A n c (I7.out.next hW) _ _ (Ex.putCode_a HNm.out (by have:=HGd.out.2.2; unfold Ex.maxA at this; simp only; omega) (by have:=HF2.out; unfold Ex.maxA at this; simp only; omega)) (by have:=HNm.out; simp only [List.length_cons]; omega) (by have:=(Ex.writA_len (p:=(f1,f2 + 1)) (by have:=HGd.out.2.2; unfold Ex.maxA at this; simp only; omega) (by have:=HF2.out; unfold Ex.maxA at this; simp only; omega)).2; omega))
   have HE2 : Hid (X = (Trie.put t (Nib.of (97 :: 58 :: fr)) (Ex.writA (f1,f2 + 1)),0)):=HE
   have hsumf : 2 + fr.length ≤ 9223372036854775807:=by have:=HNm.out; omega
   have hsumf2 : fr.length + 2 ≤ 9223372036854775807:=by omega
   have hsumf3 : fr.length + 1 + 1 ≤ 9223372036854775807:=by omega
   have hnf1 : (9223372036854775807 < 2 + fr.length) = False:=by simp; omega
   have hnf2 : (9223372036854775807 < fr.length + 2) = False:=by simp; omega
   have hnf3 : (9223372036854775807 < fr.length + 1 + 1) = False:=by simp; omega
   clear HE HGd HF2 HF1 HNm HCn HGo HIt HRd I7
   generalize Ex.writA (f1,f2 + 1) = wr at *
   generalize Trie.put t (Nib.of (97 :: 58 :: fr)) wr = tr at *
   generalize f2 + 1 = f3 at *
   have F:=Lib.hid (Live.start w7)
   have HFw:=Lib.hid F7.out.b
   have d0 : w7.cell? ⟨fb,0,none⟩ = some (.string ⟨fr.toArray⟩):=F7.out.cell 1 0 rfl rfl
   have d1 : w7.cell? ⟨fb,1,none⟩ = some (.int .i64 ((f1 : Nat) : Int)):=F7.out.cell 1 1 rfl rfl
   have d2 : w7.cell? ⟨fb,2,none⟩ = some (.int .i64 ((f3 : Nat) : Int)):=F7.out.cell 1 2 rfl rfl
   have d3 : w7.cell? ⟨xb,1,none⟩ = some (.string ⟨fr.toArray⟩):=F7.out.cell 2 1 rfl rfl
   have FX:=F7
   go_region_held3 (fun w'=>w'.cell? ⟨fb,0,none⟩ = some (.string ⟨fr.toArray⟩) ∧ w'.cell? ⟨fb,1,none⟩ = some (.int .i64 ((f1 : Nat) : Int)) ∧ w'.cell? ⟨fb,2,none⟩ = some (.int .i64 ((f3 : Nat) : Int)) ∧ w'.cell? ⟨xb,1,none⟩ = some (.string ⟨fr.toArray⟩)) (first | go_keep | (refine ⟨?_, ?_, ?_, ?_⟩ <;> assumption)) (first | (go_at_call 55; ((with_reducible refine (HVf.out _).mono ?_); (rintro e w8 ⟨rfl,hb⟩; (first | have F:=Live.hb F hb | have F:=Live.hbd F hb); (first | have FX:=Live.hb FX hb | have FX:=Live.hbd FX hb); clear hb; have d0 : w8.cell? ⟨fb,0,none⟩ = some (.string ⟨fr.toArray⟩):=FX.out.cell 1 0 rfl rfl; have d1 : w8.cell? ⟨fb,1,none⟩ = some (.int .i64 ((f1 : Nat) : Int)):=FX.out.cell 1 1 rfl rfl; have d2 : w8.cell? ⟨fb,2,none⟩ = some (.int .i64 ((f3 : Nat) : Int)):=FX.out.cell 1 2 rfl rfl; have d3 : w8.cell? ⟨xb,1,none⟩ = some (.string ⟨fr.toArray⟩):=FX.out.cell 2 1 rfl rfl))) | (go_at_call 47; ((with_reducible refine (HPf.out _ ?_).mono ?_); (first | exact F.out.b | exact F.out.b.drew); (rintro e w9 ⟨A9,n9,c9,rfl,hb,hI,_⟩; have I9:=Lib.hid (hI rfl); have FY:=FX; (first | have FX:=Live.hb FX hb | have FX:=Live.hbd FX hb); have FRE : Hid (∀ a,A9 = some a → w.heap.size ≤ a.block):=Lib.hid (fun a e=>Nat.le_trans FY.out.b.size (I9.out.2 a e)); clear hb hI FY; have d0 : w9.cell? ⟨fb,0,none⟩ = some (.string ⟨fr.toArray⟩):=FX.out.cell 1 0 rfl rfl; have d1 : w9.cell? ⟨fb,1,none⟩ = some (.int .i64 ((f1 : Nat) : Int)):=FX.out.cell 1 1 rfl rfl; have d2 : w9.cell? ⟨fb,2,none⟩ = some (.int .i64 ((f3 : Nat) : Int)):=FX.out.cell 1 2 rfl rfl; have d3 : w9.cell? ⟨xb,1,none⟩ = some (.string ⟨fr.toArray⟩):=FX.out.cell 2 1 rfl rfl))))
   all_goals go_wp2_with fail
   all_goals exact HP.out _ 0 _ _ _ _ HE2.out FX.out.b (fun _=>⟨I9.out.1,FRE.out⟩) (fun h=>absurd rfl h)
  rw [if_neg g2] at hkw
  have g2b : (dt == fr) = false:=by rw [beq_eq_false_iff_ne]; exact g2
  have g1' : ((f1 : Int) < (amn : Int)) = False:=by simp; omega
  have hwa : IntKind.i64.wrap ((t1 : Int) + (amn : Int)) = (t1 : Int) + (amn : Int):=IntWalk.i64_in _ (by unfold Ex.maxA at htl; omega)
  by_cases g3 : (1099511627776 : Int) - (amn : Int) < t1
  ·rw [if_pos g3] at hkw
   have HE : Hid (X = (t,1)):=Lib.hid (by rw [← hX2,hkw]; rfl)
   have g3' : (1099511627776 : Int) < (t1 : Int) + (amn : Int):=by omega
   clear hkw hX2 hgd hsp hx hf hle hm htt htl ha1 ha2 hnd g1 g2 g3
   go_enter Tryz.func18,Tryz.ntmps18
   go_upto_region 1 with fail
   have F0:=Live.ha (Lib.hid (Live.start w)) #[.int .i64 1,.string ⟨fr.toArray⟩,.int .i64 (f2 : Int),.string ⟨dt.toArray⟩,.int .i64 (amn : Int),.string ⟨ky.toArray⟩,.string ⟨vl.toArray⟩,.slice B mm.length m] 43
   generalize w.alloc (.cells #[.int .i64 1,.string ⟨fr.toArray⟩,.int .i64 (f2 : Int),.string ⟨dt.toArray⟩,.int .i64 (amn : Int),.string ⟨ky.toArray⟩,.string ⟨vl.toArray⟩,.slice B mm.length m] 43) = W0 at F0 ⊢
   generalize w.heap.size = xb at F0 ⊢
   have k0_0 : W0.cell? ⟨xb,0,none⟩ = some (.int .i64 1):=F0.out.cell 0 0 rfl rfl; have k0_1 : W0.cell? ⟨xb,1,none⟩ = some (.string ⟨fr.toArray⟩):=F0.out.cell 0 1 rfl rfl; have k0_2 : W0.cell? ⟨xb,2,none⟩ = some (.int .i64 (f2 : Int)):=F0.out.cell 0 2 rfl rfl; have k0_3 : W0.cell? ⟨xb,3,none⟩ = some (.string ⟨dt.toArray⟩):=F0.out.cell 0 3 rfl rfl; have k0_4 : W0.cell? ⟨xb,4,none⟩ = some (.int .i64 (amn : Int)):=F0.out.cell 0 4 rfl rfl; have k0_5 : W0.cell? ⟨xb,5,none⟩ = some (.string ⟨ky.toArray⟩):=F0.out.cell 0 5 rfl rfl; have k0_6 : W0.cell? ⟨xb,6,none⟩ = some (.string ⟨vl.toArray⟩):=F0.out.cell 0 6 rfl rfl; have k0_7 : W0.cell? ⟨xb,7,none⟩ = some (.slice B mm.length m):=F0.out.cell 0 7 rfl rfl
   go_wp2_with fail
   refine (HFn.out _ F0.out.b).mono ?_
   rintro e w1 ⟨rfl,hb⟩
   have F1:=Live.hb F0 hb
   clear hb F0 HFn k0_0 k0_1 k0_2 k0_3 k0_4 k0_5 k0_6 k0_7
   have k0_0 : w1.cell? ⟨xb,0,none⟩ = some (.int .i64 1):=F1.out.cell 0 0 rfl rfl; have k0_1 : w1.cell? ⟨xb,1,none⟩ = some (.string ⟨fr.toArray⟩):=F1.out.cell 0 1 rfl rfl; have k0_2 : w1.cell? ⟨xb,2,none⟩ = some (.int .i64 (f2 : Int)):=F1.out.cell 0 2 rfl rfl; have k0_3 : w1.cell? ⟨xb,3,none⟩ = some (.string ⟨dt.toArray⟩):=F1.out.cell 0 3 rfl rfl; have k0_4 : w1.cell? ⟨xb,4,none⟩ = some (.int .i64 (amn : Int)):=F1.out.cell 0 4 rfl rfl; have k0_5 : w1.cell? ⟨xb,5,none⟩ = some (.string ⟨ky.toArray⟩):=F1.out.cell 0 5 rfl rfl; have k0_6 : w1.cell? ⟨xb,6,none⟩ = some (.string ⟨vl.toArray⟩):=F1.out.cell 0 6 rfl rfl; have k0_7 : w1.cell? ⟨xb,7,none⟩ = some (.slice B mm.length m):=F1.out.cell 0 7 rfl rfl
   go_wp2_with fail
   refine (HAf.out _ F1.out.b).mono ?_
   rintro e w2 ⟨rfl,hb⟩
   have F2:=Live.hb F1 hb
   clear hb F1 HAf k0_0 k0_1 k0_2 k0_3 k0_4 k0_5 k0_6 k0_7
   go_upto_region 4 with fail
   have F3:=Live.ha F2 #[.string ⟨fr.toArray⟩,.int .i64 (f1 : Int),.int .i64 (f2 : Int)] 56
   generalize w2.alloc (.cells #[.string ⟨fr.toArray⟩,.int .i64 (f1 : Int),.int .i64 (f2 : Int)] 56) = w3 at F3 ⊢
   generalize w2.heap.size = fb at F3 ⊢
   clear F2
   have k0_0 : w3.cell? ⟨fb,0,none⟩ = some (.string ⟨fr.toArray⟩):=F3.out.cell 0 0 rfl rfl; have k0_1 : w3.cell? ⟨fb,1,none⟩ = some (.int .i64 (f1 : Int)):=F3.out.cell 0 1 rfl rfl; have k0_2 : w3.cell? ⟨fb,2,none⟩ = some (.int .i64 (f2 : Int)):=F3.out.cell 0 2 rfl rfl
   go_upto_region 5 with fail
   have F4:=Live.ha F3 #[.string ⟨fr.toArray⟩,.int .i64 (f1 : Int),.int .i64 (f2 : Int)] 56
   generalize w3.alloc (.cells #[.string ⟨fr.toArray⟩,.int .i64 (f1 : Int),.int .i64 (f2 : Int)] 56) = w4 at F4 ⊢
   generalize w3.heap.size = tb at F4 ⊢
   clear F3 k0_0 k0_1 k0_2
   have k0_0 : w4.cell? ⟨tb,0,none⟩ = some (.string ⟨fr.toArray⟩):=F4.out.cell 0 0 rfl rfl; have k0_1 : w4.cell? ⟨tb,1,none⟩ = some (.int .i64 (f1 : Int)):=F4.out.cell 0 1 rfl rfl; have k0_2 : w4.cell? ⟨tb,2,none⟩ = some (.int .i64 (f2 : Int)):=F4.out.cell 0 2 rfl rfl
   have k1_0 : w4.cell? ⟨fb,0,none⟩ = some (.string ⟨fr.toArray⟩):=F4.out.cell 1 0 rfl rfl; have k1_1 : w4.cell? ⟨fb,1,none⟩ = some (.int .i64 (f1 : Int)):=F4.out.cell 1 1 rfl rfl; have k1_2 : w4.cell? ⟨fb,2,none⟩ = some (.int .i64 (f2 : Int)):=F4.out.cell 1 2 rfl rfl
   have k2_0 : w4.cell? ⟨xb,0,none⟩ = some (.int .i64 1):=F4.out.cell 2 0 rfl rfl; have k2_1 : w4.cell? ⟨xb,1,none⟩ = some (.string ⟨fr.toArray⟩):=F4.out.cell 2 1 rfl rfl; have k2_2 : w4.cell? ⟨xb,2,none⟩ = some (.int .i64 (f2 : Int)):=F4.out.cell 2 2 rfl rfl; have k2_3 : w4.cell? ⟨xb,3,none⟩ = some (.string ⟨dt.toArray⟩):=F4.out.cell 2 3 rfl rfl; have k2_4 : w4.cell? ⟨xb,4,none⟩ = some (.int .i64 (amn : Int)):=F4.out.cell 2 4 rfl rfl; have k2_5 : w4.cell? ⟨xb,5,none⟩ = some (.string ⟨ky.toArray⟩):=F4.out.cell 2 5 rfl rfl; have k2_6 : w4.cell? ⟨xb,6,none⟩ = some (.string ⟨vl.toArray⟩):=F4.out.cell 2 6 rfl rfl; have k2_7 : w4.cell? ⟨xb,7,none⟩ = some (.slice B mm.length m):=F4.out.cell 2 7 rfl rfl
   go_wp2_with fail
   refine (HAd.out _ F4.out.b).mono ?_
   rintro e w5 ⟨rfl,hb⟩
   have F5:=Live.hb F4 hb
   clear hb F4 HAd k0_0 k0_1 k0_2 k1_0 k1_1 k1_2 k2_0 k2_1 k2_2 k2_3 k2_4 k2_5 k2_6 k2_7
   have fz0 : w5.frozen? ⟨tb,0,none⟩ = false:=F5.out.frozen 0 0 rfl
   have fz1 : w5.frozen? ⟨tb,1,none⟩ = false:=F5.out.frozen 0 1 rfl
   have fz2 : w5.frozen? ⟨tb,2,none⟩ = false:=F5.out.frozen 0 2 rfl
   have y0 : w5.cell? ⟨tb,0,none⟩ = some (.string ⟨fr.toArray⟩):=F5.out.cell 0 0 rfl rfl
   have y1 : w5.cell? ⟨tb,1,none⟩ = some (.int .i64 (f1 : Int)):=F5.out.cell 0 1 rfl rfl
   have y2 : w5.cell? ⟨tb,2,none⟩ = some (.int .i64 (f2 : Int)):=F5.out.cell 0 2 rfl rfl
   go_upto_region 7 with fail
   have F6 : Hid (Live w (((w5.setCell ⟨tb,0,none⟩ (.string ⟨dt.toArray⟩)).setCell ⟨tb,1,none⟩ (.int .i64 (t1 : Int))).setCell ⟨tb,2,none⟩ (.int .i64 (t2 : Int))) [(tb,56,#[.string ⟨dt.toArray⟩,.int .i64 (t1 : Int),.int .i64 (t2 : Int)]),(fb,56,#[.string ⟨fr.toArray⟩,.int .i64 (f1 : Int),.int .i64 (f2 : Int)]),(xb,43,#[.int .i64 1,.string ⟨fr.toArray⟩,.int .i64 (f2 : Int),.string ⟨dt.toArray⟩,.int .i64 (amn : Int),.string ⟨ky.toArray⟩,.string ⟨vl.toArray⟩,.slice B mm.length m])]):=Lib.hid (((F5.out.set 0 0 _ rfl).set 0 1 _ rfl).set 0 2 _ rfl)
   generalize ((w5.setCell ⟨tb,0,none⟩ (.string ⟨dt.toArray⟩)).setCell ⟨tb,1,none⟩ (.int .i64 (t1 : Int))).setCell ⟨tb,2,none⟩ (.int .i64 (t2 : Int)) = w6 at F6 ⊢
   clear F5 fz0 fz1 fz2 y0 y1 y2
   have k0_0 : w6.cell? ⟨tb,0,none⟩ = some (.string ⟨dt.toArray⟩):=F6.out.cell 0 0 rfl rfl; have k0_1 : w6.cell? ⟨tb,1,none⟩ = some (.int .i64 (t1 : Int)):=F6.out.cell 0 1 rfl rfl; have k0_2 : w6.cell? ⟨tb,2,none⟩ = some (.int .i64 (t2 : Int)):=F6.out.cell 0 2 rfl rfl
   have k1_0 : w6.cell? ⟨fb,0,none⟩ = some (.string ⟨fr.toArray⟩):=F6.out.cell 1 0 rfl rfl; have k1_1 : w6.cell? ⟨fb,1,none⟩ = some (.int .i64 (f1 : Int)):=F6.out.cell 1 1 rfl rfl; have k1_2 : w6.cell? ⟨fb,2,none⟩ = some (.int .i64 (f2 : Int)):=F6.out.cell 1 2 rfl rfl
   have k2_0 : w6.cell? ⟨xb,0,none⟩ = some (.int .i64 1):=F6.out.cell 2 0 rfl rfl; have k2_1 : w6.cell? ⟨xb,1,none⟩ = some (.string ⟨fr.toArray⟩):=F6.out.cell 2 1 rfl rfl; have k2_2 : w6.cell? ⟨xb,2,none⟩ = some (.int .i64 (f2 : Int)):=F6.out.cell 2 2 rfl rfl; have k2_3 : w6.cell? ⟨xb,3,none⟩ = some (.string ⟨dt.toArray⟩):=F6.out.cell 2 3 rfl rfl; have k2_4 : w6.cell? ⟨xb,4,none⟩ = some (.int .i64 (amn : Int)):=F6.out.cell 2 4 rfl rfl; have k2_5 : w6.cell? ⟨xb,5,none⟩ = some (.string ⟨ky.toArray⟩):=F6.out.cell 2 5 rfl rfl; have k2_6 : w6.cell? ⟨xb,6,none⟩ = some (.string ⟨vl.toArray⟩):=F6.out.cell 2 6 rfl rfl; have k2_7 : w6.cell? ⟨xb,7,none⟩ = some (.slice B mm.length m):=F6.out.cell 2 7 rfl rfl
   go_wp2_with fail
   exact HP.out t 1 none 0 0 _ HE.out F6.out.b (fun h=>absurd h (by decide)) (fun _=>rfl)
  rw [if_neg g3] at hkw
  have g3' : ((1099511627776 : Int) < (t1 : Int) + (amn : Int)) = False:=by simp; omega
  have hws : IntKind.i64.wrap ((f1 : Int) - (amn : Int)) = (f1 : Int) - (amn : Int):=IntWalk.i64_in _ (by unfold Ex.maxA at hle; omega)
  rw [hkw] at hX2 hgd
  obtain ⟨ta,hta⟩ : ∃ ta,t1 + amn = ta:=⟨_,rfl⟩
  obtain ⟨fa,hfa⟩ : ∃ fa,f1 - amn = fa:=⟨_,rfl⟩
  rw [hta,hfa] at hX2 hgd
  have HTa : Hid (((t1 : Int) + (amn : Int)) = (ta : Int) ∧ ((f1 : Int) - (amn : Int)) = (fa : Int)):=Lib.hid ⟨by omega,by omega⟩
  have HE : Hid (X = (Trie.put (Trie.put t (Nib.of (97 :: 58 :: dt)) (Ex.writA (ta,t2))) (Nib.of (Ex.aKey fr)) (Ex.writA (fa,f2 + 1)),0)):=Lib.hid (by rw [← hX2]; exact if_pos rfl)
  have HGd : Hid (Trie.Good (Trie.put t (Nib.of (97 :: 58 :: dt)) (Ex.writA (ta,t2))) ∧ Trie.count (Trie.put t (Nib.of (97 :: 58 :: dt)) (Ex.writA (ta,t2))) ≤ 1000 ∧ fa ≤ Ex.maxA):=Lib.hid ⟨hgd.1,by have:=HCn.out; have h2:=hgd.2.1; simp only [Ex.aKey] at h2; omega,hgd.2.2⟩
  have hdl:=(Ex.nameW_len hnd).2
  have hta2 : ta ≤ 2000000000000 ∧ t2 ≤ 2000000000000:=by unfold Ex.maxA at htl; omega
  have HVt : Hid (∀ W,Calls Tryz.prog 55 #[.agg #[.string ⟨dt.toArray⟩,.int .i64 (ta : Int),.int .i64 (t2 : Int)]] W (Ret W (.string ⟨(Ex.writA (ta,t2)).toArray⟩))):=Lib.hid (fun W=>ref16_Value W dt ta t2 (by omega) (by omega))
  have HPt : Hid (∀ W,Below w.heap.size w W → Calls Tryz.prog 47 #[.slice A n c,.string ⟨(97 :: 58 :: dt).toArray⟩,.string ⟨(Ex.writA (ta,t2)).toArray⟩] W (DoIEnd W (Trie.put t (Nib.of (97 :: 58 :: dt)) (Ex.writA (ta,t2))) 0)):=Lib.hid (fun W hW=>items_Put W t HGo.out (by have:=HCn.out; omega) A n c (HIt.out.next hW) _ _ (Ex.putCode_a hdl hta2.1 hta2.2) (by simp only [List.length_cons]; omega) (by have:=(Ex.writA_len (p:=(ta,t2)) hta2.1 hta2.2).2; omega))
  have hsum : 2 + dt.length ≤ 9223372036854775807:=by omega
  have hsum2 : dt.length + 2 ≤ 9223372036854775807:=by omega
  have hsum3 : dt.length + 1 + 1 ≤ 9223372036854775807:=by omega
  have hnd1 : (9223372036854775807 < 2 + dt.length) = False:=by simp; omega
  have hnd2 : (9223372036854775807 < dt.length + 2) = False:=by simp; omega
  have hnd3 : (9223372036854775807 < dt.length + 1 + 1) = False:=by simp; omega
  generalize Ex.writA (ta,t2) = wt at *
  generalize Trie.put t (Nib.of (97 :: 58 :: dt)) wt = tp at *
  clear hkw hX2 hgd hsp hx hf hle hm htt htl ha1 ha2 hnd g1 g2 g3 hdl hta2 hta hfa
  go_enter Tryz.func18,Tryz.ntmps18
  go_upto_region 1 with fail
  have F0:=Live.ha (Lib.hid (Live.start w)) #[.int .i64 1,.string ⟨fr.toArray⟩,.int .i64 (f2 : Int),.string ⟨dt.toArray⟩,.int .i64 (amn : Int),.string ⟨ky.toArray⟩,.string ⟨vl.toArray⟩,.slice B mm.length m] 43
  generalize w.alloc (.cells #[.int .i64 1,.string ⟨fr.toArray⟩,.int .i64 (f2 : Int),.string ⟨dt.toArray⟩,.int .i64 (amn : Int),.string ⟨ky.toArray⟩,.string ⟨vl.toArray⟩,.slice B mm.length m] 43) = W0 at F0 ⊢
  generalize w.heap.size = xb at F0 ⊢
  have k0_0 : W0.cell? ⟨xb,0,none⟩ = some (.int .i64 1):=F0.out.cell 0 0 rfl rfl; have k0_1 : W0.cell? ⟨xb,1,none⟩ = some (.string ⟨fr.toArray⟩):=F0.out.cell 0 1 rfl rfl; have k0_2 : W0.cell? ⟨xb,2,none⟩ = some (.int .i64 (f2 : Int)):=F0.out.cell 0 2 rfl rfl; have k0_3 : W0.cell? ⟨xb,3,none⟩ = some (.string ⟨dt.toArray⟩):=F0.out.cell 0 3 rfl rfl; have k0_4 : W0.cell? ⟨xb,4,none⟩ = some (.int .i64 (amn : Int)):=F0.out.cell 0 4 rfl rfl; have k0_5 : W0.cell? ⟨xb,5,none⟩ = some (.string ⟨ky.toArray⟩):=F0.out.cell 0 5 rfl rfl; have k0_6 : W0.cell? ⟨xb,6,none⟩ = some (.string ⟨vl.toArray⟩):=F0.out.cell 0 6 rfl rfl; have k0_7 : W0.cell? ⟨xb,7,none⟩ = some (.slice B mm.length m):=F0.out.cell 0 7 rfl rfl
  go_wp2_with fail
  refine (HFn.out _ F0.out.b).mono ?_
  rintro e w1 ⟨rfl,hb⟩
  have F1:=Live.hb F0 hb
  clear hb F0 HFn k0_0 k0_1 k0_2 k0_3 k0_4 k0_5 k0_6 k0_7
  have k0_0 : w1.cell? ⟨xb,0,none⟩ = some (.int .i64 1):=F1.out.cell 0 0 rfl rfl; have k0_1 : w1.cell? ⟨xb,1,none⟩ = some (.string ⟨fr.toArray⟩):=F1.out.cell 0 1 rfl rfl; have k0_2 : w1.cell? ⟨xb,2,none⟩ = some (.int .i64 (f2 : Int)):=F1.out.cell 0 2 rfl rfl; have k0_3 : w1.cell? ⟨xb,3,none⟩ = some (.string ⟨dt.toArray⟩):=F1.out.cell 0 3 rfl rfl; have k0_4 : w1.cell? ⟨xb,4,none⟩ = some (.int .i64 (amn : Int)):=F1.out.cell 0 4 rfl rfl; have k0_5 : w1.cell? ⟨xb,5,none⟩ = some (.string ⟨ky.toArray⟩):=F1.out.cell 0 5 rfl rfl; have k0_6 : w1.cell? ⟨xb,6,none⟩ = some (.string ⟨vl.toArray⟩):=F1.out.cell 0 6 rfl rfl; have k0_7 : w1.cell? ⟨xb,7,none⟩ = some (.slice B mm.length m):=F1.out.cell 0 7 rfl rfl
  go_wp2_with fail
  refine (HAf.out _ F1.out.b).mono ?_
  rintro e w2 ⟨rfl,hb⟩
  have F2:=Live.hb F1 hb
  clear hb F1 HAf k0_0 k0_1 k0_2 k0_3 k0_4 k0_5 k0_6 k0_7
  go_upto_region 4 with fail
  have F3:=Live.ha F2 #[.string ⟨fr.toArray⟩,.int .i64 (f1 : Int),.int .i64 (f2 : Int)] 56
  generalize w2.alloc (.cells #[.string ⟨fr.toArray⟩,.int .i64 (f1 : Int),.int .i64 (f2 : Int)] 56) = w3 at F3 ⊢
  generalize w2.heap.size = fb at F3 ⊢
  clear F2
  have k0_0 : w3.cell? ⟨fb,0,none⟩ = some (.string ⟨fr.toArray⟩):=F3.out.cell 0 0 rfl rfl; have k0_1 : w3.cell? ⟨fb,1,none⟩ = some (.int .i64 (f1 : Int)):=F3.out.cell 0 1 rfl rfl; have k0_2 : w3.cell? ⟨fb,2,none⟩ = some (.int .i64 (f2 : Int)):=F3.out.cell 0 2 rfl rfl
  go_upto_region 5 with fail
  have F4:=Live.ha F3 #[.string ⟨fr.toArray⟩,.int .i64 (f1 : Int),.int .i64 (f2 : Int)] 56
  generalize w3.alloc (.cells #[.string ⟨fr.toArray⟩,.int .i64 (f1 : Int),.int .i64 (f2 : Int)] 56) = w4 at F4 ⊢
  generalize w3.heap.size = tb at F4 ⊢
  clear F3 k0_0 k0_1 k0_2
  have k0_0 : w4.cell? ⟨tb,0,none⟩ = some (.string ⟨fr.toArray⟩):=F4.out.cell 0 0 rfl rfl; have k0_1 : w4.cell? ⟨tb,1,none⟩ = some (.int .i64 (f1 : Int)):=F4.out.cell 0 1 rfl rfl; have k0_2 : w4.cell? ⟨tb,2,none⟩ = some (.int .i64 (f2 : Int)):=F4.out.cell 0 2 rfl rfl
  have k1_0 : w4.cell? ⟨fb,0,none⟩ = some (.string ⟨fr.toArray⟩):=F4.out.cell 1 0 rfl rfl; have k1_1 : w4.cell? ⟨fb,1,none⟩ = some (.int .i64 (f1 : Int)):=F4.out.cell 1 1 rfl rfl; have k1_2 : w4.cell? ⟨fb,2,none⟩ = some (.int .i64 (f2 : Int)):=F4.out.cell 1 2 rfl rfl
  have k2_0 : w4.cell? ⟨xb,0,none⟩ = some (.int .i64 1):=F4.out.cell 2 0 rfl rfl; have k2_1 : w4.cell? ⟨xb,1,none⟩ = some (.string ⟨fr.toArray⟩):=F4.out.cell 2 1 rfl rfl; have k2_2 : w4.cell? ⟨xb,2,none⟩ = some (.int .i64 (f2 : Int)):=F4.out.cell 2 2 rfl rfl; have k2_3 : w4.cell? ⟨xb,3,none⟩ = some (.string ⟨dt.toArray⟩):=F4.out.cell 2 3 rfl rfl; have k2_4 : w4.cell? ⟨xb,4,none⟩ = some (.int .i64 (amn : Int)):=F4.out.cell 2 4 rfl rfl; have k2_5 : w4.cell? ⟨xb,5,none⟩ = some (.string ⟨ky.toArray⟩):=F4.out.cell 2 5 rfl rfl; have k2_6 : w4.cell? ⟨xb,6,none⟩ = some (.string ⟨vl.toArray⟩):=F4.out.cell 2 6 rfl rfl; have k2_7 : w4.cell? ⟨xb,7,none⟩ = some (.slice B mm.length m):=F4.out.cell 2 7 rfl rfl
  go_wp2_with fail
  refine (HAd.out _ F4.out.b).mono ?_
  rintro e w5 ⟨rfl,hb⟩
  have F5:=Live.hb F4 hb
  clear hb F4 HAd k0_0 k0_1 k0_2 k1_0 k1_1 k1_2 k2_0 k2_1 k2_2 k2_3 k2_4 k2_5 k2_6 k2_7
  have fz0 : w5.frozen? ⟨tb,0,none⟩ = false:=F5.out.frozen 0 0 rfl
  have fz1 : w5.frozen? ⟨tb,1,none⟩ = false:=F5.out.frozen 0 1 rfl
  have fz2 : w5.frozen? ⟨tb,2,none⟩ = false:=F5.out.frozen 0 2 rfl
  have y0 : w5.cell? ⟨tb,0,none⟩ = some (.string ⟨fr.toArray⟩):=F5.out.cell 0 0 rfl rfl
  have y1 : w5.cell? ⟨tb,1,none⟩ = some (.int .i64 (f1 : Int)):=F5.out.cell 0 1 rfl rfl
  have y2 : w5.cell? ⟨tb,2,none⟩ = some (.int .i64 (f2 : Int)):=F5.out.cell 0 2 rfl rfl
  go_upto_region 7 with fail
  have F6 : Hid (Live w (((w5.setCell ⟨tb,0,none⟩ (.string ⟨dt.toArray⟩)).setCell ⟨tb,1,none⟩ (.int .i64 (t1 : Int))).setCell ⟨tb,2,none⟩ (.int .i64 (t2 : Int))) [(tb,56,#[.string ⟨dt.toArray⟩,.int .i64 (t1 : Int),.int .i64 (t2 : Int)]),(fb,56,#[.string ⟨fr.toArray⟩,.int .i64 (f1 : Int),.int .i64 (f2 : Int)]),(xb,43,#[.int .i64 1,.string ⟨fr.toArray⟩,.int .i64 (f2 : Int),.string ⟨dt.toArray⟩,.int .i64 (amn : Int),.string ⟨ky.toArray⟩,.string ⟨vl.toArray⟩,.slice B mm.length m])]):=Lib.hid (((F5.out.set 0 0 _ rfl).set 0 1 _ rfl).set 0 2 _ rfl)
  generalize ((w5.setCell ⟨tb,0,none⟩ (.string ⟨dt.toArray⟩)).setCell ⟨tb,1,none⟩ (.int .i64 (t1 : Int))).setCell ⟨tb,2,none⟩ (.int .i64 (t2 : Int)) = w6 at F6 ⊢
  clear F5 fz0 fz1 fz2 y0 y1 y2
  have k0_0 : w6.cell? ⟨tb,0,none⟩ = some (.string ⟨dt.toArray⟩):=F6.out.cell 0 0 rfl rfl; have k0_1 : w6.cell? ⟨tb,1,none⟩ = some (.int .i64 (t1 : Int)):=F6.out.cell 0 1 rfl rfl; have k0_2 : w6.cell? ⟨tb,2,none⟩ = some (.int .i64 (t2 : Int)):=F6.out.cell 0 2 rfl rfl
  have k1_0 : w6.cell? ⟨fb,0,none⟩ = some (.string ⟨fr.toArray⟩):=F6.out.cell 1 0 rfl rfl; have k1_1 : w6.cell? ⟨fb,1,none⟩ = some (.int .i64 (f1 : Int)):=F6.out.cell 1 1 rfl rfl; have k1_2 : w6.cell? ⟨fb,2,none⟩ = some (.int .i64 (f2 : Int)):=F6.out.cell 1 2 rfl rfl
  have k2_0 : w6.cell? ⟨xb,0,none⟩ = some (.int .i64 1):=F6.out.cell 2 0 rfl rfl; have k2_1 : w6.cell? ⟨xb,1,none⟩ = some (.string ⟨fr.toArray⟩):=F6.out.cell 2 1 rfl rfl; have k2_2 : w6.cell? ⟨xb,2,none⟩ = some (.int .i64 (f2 : Int)):=F6.out.cell 2 2 rfl rfl; have k2_3 : w6.cell? ⟨xb,3,none⟩ = some (.string ⟨dt.toArray⟩):=F6.out.cell 2 3 rfl rfl; have k2_4 : w6.cell? ⟨xb,4,none⟩ = some (.int .i64 (amn : Int)):=F6.out.cell 2 4 rfl rfl; have k2_5 : w6.cell? ⟨xb,5,none⟩ = some (.string ⟨ky.toArray⟩):=F6.out.cell 2 5 rfl rfl; have k2_6 : w6.cell? ⟨xb,6,none⟩ = some (.string ⟨vl.toArray⟩):=F6.out.cell 2 6 rfl rfl; have k2_7 : w6.cell? ⟨xb,7,none⟩ = some (.slice B mm.length m):=F6.out.cell 2 7 rfl rfl
  have fz1 : w6.frozen? ⟨tb,1,none⟩ = false:=F6.out.frozen 0 1 rfl
  go_upto_region 24 with fail
  have F7:=Live.hs F6 0 1 (.int .i64 ((t1 : Int) + (amn : Int))) rfl
  simp only [List.set_cons_zero,List.setIfInBounds_toArray,List.set_cons_succ] at F7
  generalize w6.setCell ⟨tb,1,none⟩ _ = w7 at F7 ⊢
  clear F6 fz1 k0_0 k0_1 k0_2 k1_0 k1_1 k1_2 k2_0 k2_1 k2_2 k2_3 k2_4 k2_5 k2_6 k2_7
  have k1_1 : w7.cell? ⟨fb,1,none⟩ = some (.int .i64 (f1 : Int)):=F7.out.cell 1 1 rfl rfl
  have k2_4 : w7.cell? ⟨xb,4,none⟩ = some (.int .i64 (amn : Int)):=F7.out.cell 2 4 rfl rfl
  have fz1 : w7.frozen? ⟨fb,1,none⟩ = false:=F7.out.frozen 1 1 rfl
  go_upto_region 25 with fail
  have F8:=Live.hs F7 1 1 (.int .i64 ((f1 : Int) - (amn : Int))) rfl
  simp only [List.set_cons_zero,List.setIfInBounds_toArray,List.set_cons_succ] at F8
  generalize w7.setCell ⟨fb,1,none⟩ _ = w8 at F8 ⊢
  clear F7 fz1 k1_1 k2_4
  rw [HTa.out.1,HTa.out.2] at F8
  clear HTa hwa hws g3'
  have FX:=F8
  have d0 : w8.cell? ⟨tb,0,none⟩ = some (.string ⟨dt.toArray⟩):=FX.out.cell 0 0 rfl rfl; have d1 : w8.cell? ⟨tb,1,none⟩ = some (.int .i64 (ta : Int)):=FX.out.cell 0 1 rfl rfl; have d2 : w8.cell? ⟨tb,2,none⟩ = some (.int .i64 (t2 : Int)):=FX.out.cell 0 2 rfl rfl; have d3 : w8.cell? ⟨xb,3,none⟩ = some (.string ⟨dt.toArray⟩):=FX.out.cell 2 3 rfl rfl
  go_region_held3 (fun w'=>w'.cell? ⟨tb,0,none⟩ = some (.string ⟨dt.toArray⟩) ∧ w'.cell? ⟨tb,1,none⟩ = some (.int .i64 (ta : Int)) ∧ w'.cell? ⟨tb,2,none⟩ = some (.int .i64 (t2 : Int)) ∧ w'.cell? ⟨xb,3,none⟩ = some (.string ⟨dt.toArray⟩)) (first | go_keep | (refine ⟨?_, ?_, ?_, ?_⟩ <;> assumption)) (first | (go_at_call 55; ((with_reducible refine (HVt.out _).mono ?_); (rintro e w9 ⟨rfl,hb⟩; (first | have FX:=Live.hb FX hb | have FX:=Live.hbd FX hb); clear hb; have d0 : w9.cell? ⟨tb,0,none⟩ = some (.string ⟨dt.toArray⟩):=FX.out.cell 0 0 rfl rfl; have d1 : w9.cell? ⟨tb,1,none⟩ = some (.int .i64 (ta : Int)):=FX.out.cell 0 1 rfl rfl; have d2 : w9.cell? ⟨tb,2,none⟩ = some (.int .i64 (t2 : Int)):=FX.out.cell 0 2 rfl rfl; have d3 : w9.cell? ⟨xb,3,none⟩ = some (.string ⟨dt.toArray⟩):=FX.out.cell 2 3 rfl rfl))) | (go_at_call 47; ((with_reducible refine (HPt.out _ ?_).mono ?_); (first | exact FX.out.b | exact FX.out.b.drew); (rintro e w9 ⟨A9,n9,c9,rfl,hb,hI,_⟩; have I9:=Lib.hid (hI rfl); have FRE : Hid (∀ a,A9 = some a → a.block ≠ fb):=Lib.hid (fun a e=>by have h1:=I9.out.2 a e; have h2:=FX.out.lt 1 rfl; have h3 : fb < a.block:=Nat.lt_of_lt_of_le h2 h1; omega); (first | have FX:=Live.hb FX hb | have FX:=Live.hbd FX hb); clear hb hI; have d0 : w9.cell? ⟨tb,0,none⟩ = some (.string ⟨dt.toArray⟩):=FX.out.cell 0 0 rfl rfl; have d1 : w9.cell? ⟨tb,1,none⟩ = some (.int .i64 (ta : Int)):=FX.out.cell 0 1 rfl rfl; have d2 : w9.cell? ⟨tb,2,none⟩ = some (.int .i64 (t2 : Int)):=FX.out.cell 0 2 rfl rfl; have d3 : w9.cell? ⟨xb,3,none⟩ = some (.string ⟨dt.toArray⟩):=FX.out.cell 2 3 rfl rfl))))
  all_goals
   have I9b : Hid (IAt w9 A9 n9 c9 tp ∧ ∀ a,A9 = some a → a.block ≠ fb):=Lib.hid ⟨I9.out.1,FRE.out⟩
   clear I9 FRE F8 d0 d1 d2 d3 hsum hsum2 hsum3 hnd1 hnd2 hnd3 HVt HPt
   have HVf : Hid (∀ W,Calls Tryz.prog 55 #[.agg #[.string ⟨fr.toArray⟩,.int .i64 ((fa : Nat) : Int),.int .i64 ((f2 + 1 : Nat) : Int)]] W (Ret W (.string ⟨(Ex.writA (fa,f2 + 1)).toArray⟩))):=Lib.hid (fun W=>ref16_Value W fr fa (f2 + 1) (by have:=HGd.out.2.2; unfold Ex.maxA at this; omega) (by have:=HF2.out; unfold Ex.maxA at this; omega))
   have z02 : w9.cell? ⟨fb,2,none⟩ = some (.int .i64 (f2 : Int)):=FX.out.cell 1 2 rfl rfl
   have fz2 : w9.frozen? ⟨fb,2,none⟩ = false:=FX.out.frozen 1 2 rfl
   go_upto_region 33 with fail
   have F7:=Live.hs FX 1 2 (.int .i64 ((f2 : Int) + 1)) rfl
   simp only [List.set_cons_zero,List.setIfInBounds_toArray,List.set_cons_succ] at F7
   have I7:=Lib.hid (I9b.out.1.grown (grown_cell (World.grownBy.refl w9 (some fb)) 2 (.int .i64 ((f2 : Int) + 1))) I9b.out.2)
   generalize w9.setCell ⟨fb,2,none⟩ _ = w7 at F7 I7 ⊢
   rw [show (f2 : Int) + 1 = ((f2 + 1 : Nat) : Int) by omega] at F7
   clear z02 fz2 FX
   have HPf : Hid (∀ W,Below w7.heap.size w7 W → Calls Tryz.prog 47 #[.slice A9 n9 c9,.string ⟨(97 :: 58 :: fr).toArray⟩,.string ⟨(Ex.writA (fa,f2 + 1)).toArray⟩] W (DoIEnd W (Trie.put tp (Nib.of (97 :: 58 :: fr)) (Ex.writA (fa,f2 + 1))) 0)):=Lib.hid (fun W hW=>items_Put W tp HGd.out.1 HGd.out.2.1 A9 n9 c9 (I7.out.next hW) _ _ (Ex.putCode_a HNm.out (by have:=HGd.out.2.2; unfold Ex.maxA at this; simp only; omega) (by have:=HF2.out; unfold Ex.maxA at this; simp only; omega)) (by have:=HNm.out; simp only [List.length_cons]; omega) (by have:=(Ex.writA_len (p:=(fa,f2 + 1)) (by have:=HGd.out.2.2; unfold Ex.maxA at this; simp only; omega) (by have:=HF2.out; unfold Ex.maxA at this; simp only; omega)).2; omega))
   have HE2 : Hid (X = (Trie.put tp (Nib.of (97 :: 58 :: fr)) (Ex.writA (fa,f2 + 1)),0)):=HE
   have hsumf : 2 + fr.length ≤ 9223372036854775807:=by have:=HNm.out; omega
   have hsumf2 : fr.length + 2 ≤ 9223372036854775807:=by omega
   have hsumf3 : fr.length + 1 + 1 ≤ 9223372036854775807:=by omega
   have hnf1 : (9223372036854775807 < 2 + fr.length) = False:=by simp; omega
   have hnf2 : (9223372036854775807 < fr.length + 2) = False:=by simp; omega
   have hnf3 : (9223372036854775807 < fr.length + 1 + 1) = False:=by simp; omega
   clear HE HGd HF2 HF1 HNm HCn HGo HIt HRd I7
   generalize Ex.writA (fa,f2 + 1) = wr at *
   generalize Trie.put tp (Nib.of (97 :: 58 :: fr)) wr = tr at *
   generalize f2 + 1 = f3 at *
   have F:=Lib.hid (Live.start w7)
   have HFw:=Lib.hid F7.out.b
   have d0 : w7.cell? ⟨fb,0,none⟩ = some (.string ⟨fr.toArray⟩):=F7.out.cell 1 0 rfl rfl
   have d1 : w7.cell? ⟨fb,1,none⟩ = some (.int .i64 ((fa : Nat) : Int)):=F7.out.cell 1 1 rfl rfl
   have d2 : w7.cell? ⟨fb,2,none⟩ = some (.int .i64 ((f3 : Nat) : Int)):=F7.out.cell 1 2 rfl rfl
   have d3 : w7.cell? ⟨xb,1,none⟩ = some (.string ⟨fr.toArray⟩):=F7.out.cell 2 1 rfl rfl
   have FX:=F7
   go_region_held3 (fun w'=>w'.cell? ⟨fb,0,none⟩ = some (.string ⟨fr.toArray⟩) ∧ w'.cell? ⟨fb,1,none⟩ = some (.int .i64 ((fa : Nat) : Int)) ∧ w'.cell? ⟨fb,2,none⟩ = some (.int .i64 ((f3 : Nat) : Int)) ∧ w'.cell? ⟨xb,1,none⟩ = some (.string ⟨fr.toArray⟩)) (first | go_keep | (refine ⟨?_, ?_, ?_, ?_⟩ <;> assumption)) (first | (go_at_call 55; ((with_reducible refine (HVf.out _).mono ?_); (rintro e w8 ⟨rfl,hb⟩; (first | have F:=Live.hb F hb | have F:=Live.hbd F hb); (first | have FX:=Live.hb FX hb | have FX:=Live.hbd FX hb); clear hb; have d0 : w8.cell? ⟨fb,0,none⟩ = some (.string ⟨fr.toArray⟩):=FX.out.cell 1 0 rfl rfl; have d1 : w8.cell? ⟨fb,1,none⟩ = some (.int .i64 ((fa : Nat) : Int)):=FX.out.cell 1 1 rfl rfl; have d2 : w8.cell? ⟨fb,2,none⟩ = some (.int .i64 ((f3 : Nat) : Int)):=FX.out.cell 1 2 rfl rfl; have d3 : w8.cell? ⟨xb,1,none⟩ = some (.string ⟨fr.toArray⟩):=FX.out.cell 2 1 rfl rfl))) | (go_at_call 47; ((with_reducible refine (HPf.out _ ?_).mono ?_); (first | exact F.out.b | exact F.out.b.drew); (rintro e w9 ⟨A9,n9,c9,rfl,hb,hI,_⟩; have I9:=Lib.hid (hI rfl); have FY:=FX; (first | have FX:=Live.hb FX hb | have FX:=Live.hbd FX hb); have FRE : Hid (∀ a,A9 = some a → w.heap.size ≤ a.block):=Lib.hid (fun a e=>Nat.le_trans FY.out.b.size (I9.out.2 a e)); clear hb hI FY; have d0 : w9.cell? ⟨fb,0,none⟩ = some (.string ⟨fr.toArray⟩):=FX.out.cell 1 0 rfl rfl; have d1 : w9.cell? ⟨fb,1,none⟩ = some (.int .i64 ((fa : Nat) : Int)):=FX.out.cell 1 1 rfl rfl; have d2 : w9.cell? ⟨fb,2,none⟩ = some (.int .i64 ((f3 : Nat) : Int)):=FX.out.cell 1 2 rfl rfl; have d3 : w9.cell? ⟨xb,1,none⟩ = some (.string ⟨fr.toArray⟩):=FX.out.cell 2 1 rfl rfl))))
   all_goals go_wp2_with fail
   all_goals exact HP.out _ 0 _ _ _ _ HE2.out FX.out.b (fun _=>⟨I9.out.1,FRE.out⟩) (fun h=>absurd rfl h)
 have k1' : (kd == 1) = false:=by simp; exact k1
 have hto : Ex.accTo t ⟨kd,fr,sq,dt,am,ky,vl,mm⟩ = some (0,0):=by unfold Ex.accTo; rw [if_neg k1]
 rw [hto] at hX2
 simp only at hX2
 clear hto HAd
 by_cases hs : (f2 : Int) = sq
 rotate_left
 ·have hs1 : ((f2 : Int) != sq) = true:=by simp; exact hs
  rw [if_pos (Or.inl hs)] at hX2
  have HE : Hid (X = (t,160)):=Lib.hid hX2.symm
  clear hX2 hsp hx hf hle hs
  go_enter Tryz.func18,Tryz.ntmps18
  go_upto_region 1 with fail
  have F0:=Live.ha (Lib.hid (Live.start w)) #[.int .i64 kd,.string ⟨fr.toArray⟩,.int .i64 sq,.string ⟨dt.toArray⟩,.int .i64 am,.string ⟨ky.toArray⟩,.string ⟨vl.toArray⟩,.slice B mm.length m] 43
  generalize w.alloc (.cells #[.int .i64 kd,.string ⟨fr.toArray⟩,.int .i64 sq,.string ⟨dt.toArray⟩,.int .i64 am,.string ⟨ky.toArray⟩,.string ⟨vl.toArray⟩,.slice B mm.length m] 43) = W0 at F0 ⊢
  generalize w.heap.size = xb at F0 ⊢
  have k0_0 : W0.cell? ⟨xb,0,none⟩ = some (.int .i64 kd):=F0.out.cell 0 0 rfl rfl; have k0_1 : W0.cell? ⟨xb,1,none⟩ = some (.string ⟨fr.toArray⟩):=F0.out.cell 0 1 rfl rfl; have k0_2 : W0.cell? ⟨xb,2,none⟩ = some (.int .i64 sq):=F0.out.cell 0 2 rfl rfl; have k0_3 : W0.cell? ⟨xb,3,none⟩ = some (.string ⟨dt.toArray⟩):=F0.out.cell 0 3 rfl rfl; have k0_4 : W0.cell? ⟨xb,4,none⟩ = some (.int .i64 am):=F0.out.cell 0 4 rfl rfl; have k0_5 : W0.cell? ⟨xb,5,none⟩ = some (.string ⟨ky.toArray⟩):=F0.out.cell 0 5 rfl rfl; have k0_6 : W0.cell? ⟨xb,6,none⟩ = some (.string ⟨vl.toArray⟩):=F0.out.cell 0 6 rfl rfl; have k0_7 : W0.cell? ⟨xb,7,none⟩ = some (.slice B mm.length m):=F0.out.cell 0 7 rfl rfl
  go_wp2_with fail
  refine (HFn.out _ F0.out.b).mono ?_
  rintro e w1 ⟨rfl,hb⟩
  have F1:=Live.hb F0 hb
  clear hb F0 HFn k0_0 k0_1 k0_2 k0_3 k0_4 k0_5 k0_6 k0_7
  have k0_0 : w1.cell? ⟨xb,0,none⟩ = some (.int .i64 kd):=F1.out.cell 0 0 rfl rfl; have k0_1 : w1.cell? ⟨xb,1,none⟩ = some (.string ⟨fr.toArray⟩):=F1.out.cell 0 1 rfl rfl; have k0_2 : w1.cell? ⟨xb,2,none⟩ = some (.int .i64 sq):=F1.out.cell 0 2 rfl rfl; have k0_3 : w1.cell? ⟨xb,3,none⟩ = some (.string ⟨dt.toArray⟩):=F1.out.cell 0 3 rfl rfl; have k0_4 : w1.cell? ⟨xb,4,none⟩ = some (.int .i64 am):=F1.out.cell 0 4 rfl rfl; have k0_5 : w1.cell? ⟨xb,5,none⟩ = some (.string ⟨ky.toArray⟩):=F1.out.cell 0 5 rfl rfl; have k0_6 : w1.cell? ⟨xb,6,none⟩ = some (.string ⟨vl.toArray⟩):=F1.out.cell 0 6 rfl rfl; have k0_7 : w1.cell? ⟨xb,7,none⟩ = some (.slice B mm.length m):=F1.out.cell 0 7 rfl rfl
  go_wp2_with fail
  refine (HAf.out _ F1.out.b).mono ?_
  rintro e w2 ⟨rfl,hb⟩
  have F2:=Live.hb F1 hb
  clear hb F1 HAf k0_0 k0_1 k0_2 k0_3 k0_4 k0_5 k0_6 k0_7
  go_upto_region 4 with fail
  have F3:=Live.ha F2 #[.string ⟨fr.toArray⟩,.int .i64 (f1 : Int),.int .i64 (f2 : Int)] 56
  generalize w2.alloc (.cells #[.string ⟨fr.toArray⟩,.int .i64 (f1 : Int),.int .i64 (f2 : Int)] 56) = w3 at F3 ⊢
  generalize w2.heap.size = fb at F3 ⊢
  clear F2
  have k0_0 : w3.cell? ⟨fb,0,none⟩ = some (.string ⟨fr.toArray⟩):=F3.out.cell 0 0 rfl rfl; have k0_1 : w3.cell? ⟨fb,1,none⟩ = some (.int .i64 (f1 : Int)):=F3.out.cell 0 1 rfl rfl; have k0_2 : w3.cell? ⟨fb,2,none⟩ = some (.int .i64 (f2 : Int)):=F3.out.cell 0 2 rfl rfl
  go_upto_region 5 with fail
  have F4:=Live.ha F3 #[.string ⟨fr.toArray⟩,.int .i64 (f1 : Int),.int .i64 (f2 : Int)] 56
  generalize w3.alloc (.cells #[.string ⟨fr.toArray⟩,.int .i64 (f1 : Int),.int .i64 (f2 : Int)] 56) = w4 at F4 ⊢
  generalize w3.heap.size = tb at F4 ⊢
  clear F3 k0_0 k0_1 k0_2
  have k0_0 : w4.cell? ⟨tb,0,none⟩ = some (.string ⟨fr.toArray⟩):=F4.out.cell 0 0 rfl rfl; have k0_1 : w4.cell? ⟨tb,1,none⟩ = some (.int .i64 (f1 : Int)):=F4.out.cell 0 1 rfl rfl; have k0_2 : w4.cell? ⟨tb,2,none⟩ = some (.int .i64 (f2 : Int)):=F4.out.cell 0 2 rfl rfl
  have k1_0 : w4.cell? ⟨fb,0,none⟩ = some (.string ⟨fr.toArray⟩):=F4.out.cell 1 0 rfl rfl; have k1_1 : w4.cell? ⟨fb,1,none⟩ = some (.int .i64 (f1 : Int)):=F4.out.cell 1 1 rfl rfl; have k1_2 : w4.cell? ⟨fb,2,none⟩ = some (.int .i64 (f2 : Int)):=F4.out.cell 1 2 rfl rfl
  have k2_0 : w4.cell? ⟨xb,0,none⟩ = some (.int .i64 kd):=F4.out.cell 2 0 rfl rfl; have k2_1 : w4.cell? ⟨xb,1,none⟩ = some (.string ⟨fr.toArray⟩):=F4.out.cell 2 1 rfl rfl; have k2_2 : w4.cell? ⟨xb,2,none⟩ = some (.int .i64 sq):=F4.out.cell 2 2 rfl rfl; have k2_3 : w4.cell? ⟨xb,3,none⟩ = some (.string ⟨dt.toArray⟩):=F4.out.cell 2 3 rfl rfl; have k2_4 : w4.cell? ⟨xb,4,none⟩ = some (.int .i64 am):=F4.out.cell 2 4 rfl rfl; have k2_5 : w4.cell? ⟨xb,5,none⟩ = some (.string ⟨ky.toArray⟩):=F4.out.cell 2 5 rfl rfl; have k2_6 : w4.cell? ⟨xb,6,none⟩ = some (.string ⟨vl.toArray⟩):=F4.out.cell 2 6 rfl rfl; have k2_7 : w4.cell? ⟨xb,7,none⟩ = some (.slice B mm.length m):=F4.out.cell 2 7 rfl rfl
  go_wp2_with fail
  exact HP.out t 160 none 0 0 _ HE.out F4.out.b (fun h=>absurd h (by decide)) (fun _=>rfl)
 subst hs
 have hs1 : ((f2 : Int) != f2) = false:=by simp
 by_cases hm : f2 = Ex.maxA
 ·have hm1 : ((f2 : Int) == 1099511627776) = true:=by rw [hm]; rfl
  rw [if_pos (Or.inr hm)] at hX2
  have HE : Hid (X = (t,160)):=Lib.hid hX2.symm
  clear hX2 hsp hx hf hle hm
  go_enter Tryz.func18,Tryz.ntmps18
  go_upto_region 1 with fail
  have F0:=Live.ha (Lib.hid (Live.start w)) #[.int .i64 kd,.string ⟨fr.toArray⟩,.int .i64 (f2 : Int),.string ⟨dt.toArray⟩,.int .i64 am,.string ⟨ky.toArray⟩,.string ⟨vl.toArray⟩,.slice B mm.length m] 43
  generalize w.alloc (.cells #[.int .i64 kd,.string ⟨fr.toArray⟩,.int .i64 (f2 : Int),.string ⟨dt.toArray⟩,.int .i64 am,.string ⟨ky.toArray⟩,.string ⟨vl.toArray⟩,.slice B mm.length m] 43) = W0 at F0 ⊢
  generalize w.heap.size = xb at F0 ⊢
  have k0_0 : W0.cell? ⟨xb,0,none⟩ = some (.int .i64 kd):=F0.out.cell 0 0 rfl rfl; have k0_1 : W0.cell? ⟨xb,1,none⟩ = some (.string ⟨fr.toArray⟩):=F0.out.cell 0 1 rfl rfl; have k0_2 : W0.cell? ⟨xb,2,none⟩ = some (.int .i64 (f2 : Int)):=F0.out.cell 0 2 rfl rfl; have k0_3 : W0.cell? ⟨xb,3,none⟩ = some (.string ⟨dt.toArray⟩):=F0.out.cell 0 3 rfl rfl; have k0_4 : W0.cell? ⟨xb,4,none⟩ = some (.int .i64 am):=F0.out.cell 0 4 rfl rfl; have k0_5 : W0.cell? ⟨xb,5,none⟩ = some (.string ⟨ky.toArray⟩):=F0.out.cell 0 5 rfl rfl; have k0_6 : W0.cell? ⟨xb,6,none⟩ = some (.string ⟨vl.toArray⟩):=F0.out.cell 0 6 rfl rfl; have k0_7 : W0.cell? ⟨xb,7,none⟩ = some (.slice B mm.length m):=F0.out.cell 0 7 rfl rfl
  go_wp2_with fail
  refine (HFn.out _ F0.out.b).mono ?_
  rintro e w1 ⟨rfl,hb⟩
  have F1:=Live.hb F0 hb
  clear hb F0 HFn k0_0 k0_1 k0_2 k0_3 k0_4 k0_5 k0_6 k0_7
  have k0_0 : w1.cell? ⟨xb,0,none⟩ = some (.int .i64 kd):=F1.out.cell 0 0 rfl rfl; have k0_1 : w1.cell? ⟨xb,1,none⟩ = some (.string ⟨fr.toArray⟩):=F1.out.cell 0 1 rfl rfl; have k0_2 : w1.cell? ⟨xb,2,none⟩ = some (.int .i64 (f2 : Int)):=F1.out.cell 0 2 rfl rfl; have k0_3 : w1.cell? ⟨xb,3,none⟩ = some (.string ⟨dt.toArray⟩):=F1.out.cell 0 3 rfl rfl; have k0_4 : w1.cell? ⟨xb,4,none⟩ = some (.int .i64 am):=F1.out.cell 0 4 rfl rfl; have k0_5 : w1.cell? ⟨xb,5,none⟩ = some (.string ⟨ky.toArray⟩):=F1.out.cell 0 5 rfl rfl; have k0_6 : w1.cell? ⟨xb,6,none⟩ = some (.string ⟨vl.toArray⟩):=F1.out.cell 0 6 rfl rfl; have k0_7 : w1.cell? ⟨xb,7,none⟩ = some (.slice B mm.length m):=F1.out.cell 0 7 rfl rfl
  go_wp2_with fail
  refine (HAf.out _ F1.out.b).mono ?_
  rintro e w2 ⟨rfl,hb⟩
  have F2:=Live.hb F1 hb
  clear hb F1 HAf k0_0 k0_1 k0_2 k0_3 k0_4 k0_5 k0_6 k0_7
  go_upto_region 4 with fail
  have F3:=Live.ha F2 #[.string ⟨fr.toArray⟩,.int .i64 (f1 : Int),.int .i64 (f2 : Int)] 56
  generalize w2.alloc (.cells #[.string ⟨fr.toArray⟩,.int .i64 (f1 : Int),.int .i64 (f2 : Int)] 56) = w3 at F3 ⊢
  generalize w2.heap.size = fb at F3 ⊢
  clear F2
  have k0_0 : w3.cell? ⟨fb,0,none⟩ = some (.string ⟨fr.toArray⟩):=F3.out.cell 0 0 rfl rfl; have k0_1 : w3.cell? ⟨fb,1,none⟩ = some (.int .i64 (f1 : Int)):=F3.out.cell 0 1 rfl rfl; have k0_2 : w3.cell? ⟨fb,2,none⟩ = some (.int .i64 (f2 : Int)):=F3.out.cell 0 2 rfl rfl
  go_upto_region 5 with fail
  have F4:=Live.ha F3 #[.string ⟨fr.toArray⟩,.int .i64 (f1 : Int),.int .i64 (f2 : Int)] 56
  generalize w3.alloc (.cells #[.string ⟨fr.toArray⟩,.int .i64 (f1 : Int),.int .i64 (f2 : Int)] 56) = w4 at F4 ⊢
  generalize w3.heap.size = tb at F4 ⊢
  clear F3 k0_0 k0_1 k0_2
  have k0_0 : w4.cell? ⟨tb,0,none⟩ = some (.string ⟨fr.toArray⟩):=F4.out.cell 0 0 rfl rfl; have k0_1 : w4.cell? ⟨tb,1,none⟩ = some (.int .i64 (f1 : Int)):=F4.out.cell 0 1 rfl rfl; have k0_2 : w4.cell? ⟨tb,2,none⟩ = some (.int .i64 (f2 : Int)):=F4.out.cell 0 2 rfl rfl
  have k1_0 : w4.cell? ⟨fb,0,none⟩ = some (.string ⟨fr.toArray⟩):=F4.out.cell 1 0 rfl rfl; have k1_1 : w4.cell? ⟨fb,1,none⟩ = some (.int .i64 (f1 : Int)):=F4.out.cell 1 1 rfl rfl; have k1_2 : w4.cell? ⟨fb,2,none⟩ = some (.int .i64 (f2 : Int)):=F4.out.cell 1 2 rfl rfl
  have k2_0 : w4.cell? ⟨xb,0,none⟩ = some (.int .i64 kd):=F4.out.cell 2 0 rfl rfl; have k2_1 : w4.cell? ⟨xb,1,none⟩ = some (.string ⟨fr.toArray⟩):=F4.out.cell 2 1 rfl rfl; have k2_2 : w4.cell? ⟨xb,2,none⟩ = some (.int .i64 (f2 : Int)):=F4.out.cell 2 2 rfl rfl; have k2_3 : w4.cell? ⟨xb,3,none⟩ = some (.string ⟨dt.toArray⟩):=F4.out.cell 2 3 rfl rfl; have k2_4 : w4.cell? ⟨xb,4,none⟩ = some (.int .i64 am):=F4.out.cell 2 4 rfl rfl; have k2_5 : w4.cell? ⟨xb,5,none⟩ = some (.string ⟨ky.toArray⟩):=F4.out.cell 2 5 rfl rfl; have k2_6 : w4.cell? ⟨xb,6,none⟩ = some (.string ⟨vl.toArray⟩):=F4.out.cell 2 6 rfl rfl; have k2_7 : w4.cell? ⟨xb,7,none⟩ = some (.slice B mm.length m):=F4.out.cell 2 7 rfl rfl
  go_wp2_with fail
  exact HP.out t 160 none 0 0 _ HE.out F4.out.b (fun h=>absurd h (by decide)) (fun _=>rfl)
 have hm1 : ((f2 : Int) == 1099511627776) = false:=by rw [beq_eq_false_iff_ne]; unfold Ex.maxA at hm; omega
 rw [if_neg (by rintro (h | h); exact h rfl; exact hm h)] at hX2
 have HF1:=Lib.hid hle.1
 have HF2:=Lib.hid hle.2
 have hwq : IntKind.i64.wrap ((f2 : Int) + 1) = (f2 : Int) + 1:=IntWalk.i64_in _ (by unfold Ex.maxA at hle; omega)
 have hgd:=Ex.kindW_good HGo.out hx (f:=(f1,f2)) (tt:=(0,0)) hle.1 ⟨by simp,by simp⟩
 rcases hsp.2.2.2 with ⟨k,_⟩ | ⟨k,z1,z2,z3,v1,v2,q1,q2⟩ | ⟨k,z1,z2,z3,z4,q1,q2⟩ | ⟨k,z1,z2,z3,z4,hmm⟩
 ·exact absurd k k1
 ·subst k
  clear z1 z2 z3
  have hkw:=Ex.kindW_2 (t:=t) (x:=⟨2,fr,f2,dt,am,ky,vl,mm⟩) (f:=(f1,f2)) (tt:=(0,0)) rfl
  simp only at hkw
  rw [hkw] at hX2 hgd
  have HE : Hid (X = (Trie.put (Trie.put t (Nib.of (Ex.dKey ky)) vl) (Nib.of (Ex.aKey fr)) (Ex.writA (f1,f2 + 1)),0)):=Lib.hid (by rw [← hX2]; exact if_pos rfl)
  have HGd : Hid (Trie.Good (Trie.put t (Nib.of (100 :: 58 :: ky)) vl) ∧ Trie.count (Trie.put t (Nib.of (100 :: 58 :: ky)) vl) ≤ 1000 ∧ f1 ≤ Ex.maxA):=Lib.hid ⟨hgd.1,by have:=HCn.out; have h2:=hgd.2.1; simp only [Ex.dKey] at h2; omega,HF1.out⟩
  have HPt : Hid (∀ W,Below w.heap.size w W → Calls Tryz.prog 47 #[.slice A n c,.string ⟨(100 :: 58 :: ky).toArray⟩,.string ⟨vl.toArray⟩] W (DoIEnd W (Trie.put t (Nib.of (100 :: 58 :: ky)) vl) 0)):=Lib.hid (fun W hW=>items_Put W t HGo.out (by have:=HCn.out; omega) A n c (HIt.out.next hW) _ _ (Ex.putCode_v (Ex.keyed_d q2) v1 v2) (by simp only [List.length_cons]; omega) (by omega))
  have hsum : 2 + ky.length ≤ 9223372036854775807:=by omega
  have hsum2 : ky.length + 2 ≤ 9223372036854775807:=by omega
  have hsum3 : ky.length + 1 + 1 ≤ 9223372036854775807:=by omega
  clear hkw hX2 hgd hsp hx hf hle hm v1 v2 q1 q2 k1 k1'
  go_enter Tryz.func18,Tryz.ntmps18
  go_upto_region 1 with fail
  have F0:=Live.ha (Lib.hid (Live.start w)) #[.int .i64 2,.string ⟨fr.toArray⟩,.int .i64 (f2 : Int),.string ⟨dt.toArray⟩,.int .i64 am,.string ⟨ky.toArray⟩,.string ⟨vl.toArray⟩,.slice B mm.length m] 43
  generalize w.alloc (.cells #[.int .i64 2,.string ⟨fr.toArray⟩,.int .i64 (f2 : Int),.string ⟨dt.toArray⟩,.int .i64 am,.string ⟨ky.toArray⟩,.string ⟨vl.toArray⟩,.slice B mm.length m] 43) = W0 at F0 ⊢
  generalize w.heap.size = xb at F0 ⊢
  have k0_0 : W0.cell? ⟨xb,0,none⟩ = some (.int .i64 2):=F0.out.cell 0 0 rfl rfl; have k0_1 : W0.cell? ⟨xb,1,none⟩ = some (.string ⟨fr.toArray⟩):=F0.out.cell 0 1 rfl rfl; have k0_2 : W0.cell? ⟨xb,2,none⟩ = some (.int .i64 (f2 : Int)):=F0.out.cell 0 2 rfl rfl; have k0_3 : W0.cell? ⟨xb,3,none⟩ = some (.string ⟨dt.toArray⟩):=F0.out.cell 0 3 rfl rfl; have k0_4 : W0.cell? ⟨xb,4,none⟩ = some (.int .i64 am):=F0.out.cell 0 4 rfl rfl; have k0_5 : W0.cell? ⟨xb,5,none⟩ = some (.string ⟨ky.toArray⟩):=F0.out.cell 0 5 rfl rfl; have k0_6 : W0.cell? ⟨xb,6,none⟩ = some (.string ⟨vl.toArray⟩):=F0.out.cell 0 6 rfl rfl; have k0_7 : W0.cell? ⟨xb,7,none⟩ = some (.slice B mm.length m):=F0.out.cell 0 7 rfl rfl
  go_wp2_with fail
  refine (HFn.out _ F0.out.b).mono ?_
  rintro e w1 ⟨rfl,hb⟩
  have F1:=Live.hb F0 hb
  clear hb F0 HFn k0_0 k0_1 k0_2 k0_3 k0_4 k0_5 k0_6 k0_7
  have k0_0 : w1.cell? ⟨xb,0,none⟩ = some (.int .i64 2):=F1.out.cell 0 0 rfl rfl; have k0_1 : w1.cell? ⟨xb,1,none⟩ = some (.string ⟨fr.toArray⟩):=F1.out.cell 0 1 rfl rfl; have k0_2 : w1.cell? ⟨xb,2,none⟩ = some (.int .i64 (f2 : Int)):=F1.out.cell 0 2 rfl rfl; have k0_3 : w1.cell? ⟨xb,3,none⟩ = some (.string ⟨dt.toArray⟩):=F1.out.cell 0 3 rfl rfl; have k0_4 : w1.cell? ⟨xb,4,none⟩ = some (.int .i64 am):=F1.out.cell 0 4 rfl rfl; have k0_5 : w1.cell? ⟨xb,5,none⟩ = some (.string ⟨ky.toArray⟩):=F1.out.cell 0 5 rfl rfl; have k0_6 : w1.cell? ⟨xb,6,none⟩ = some (.string ⟨vl.toArray⟩):=F1.out.cell 0 6 rfl rfl; have k0_7 : w1.cell? ⟨xb,7,none⟩ = some (.slice B mm.length m):=F1.out.cell 0 7 rfl rfl
  go_wp2_with fail
  refine (HAf.out _ F1.out.b).mono ?_
  rintro e w2 ⟨rfl,hb⟩
  have F2:=Live.hb F1 hb
  clear hb F1 HAf k0_0 k0_1 k0_2 k0_3 k0_4 k0_5 k0_6 k0_7
  go_upto_region 4 with fail
  have F3:=Live.ha F2 #[.string ⟨fr.toArray⟩,.int .i64 (f1 : Int),.int .i64 (f2 : Int)] 56
  generalize w2.alloc (.cells #[.string ⟨fr.toArray⟩,.int .i64 (f1 : Int),.int .i64 (f2 : Int)] 56) = w3 at F3 ⊢
  generalize w2.heap.size = fb at F3 ⊢
  clear F2
  have k0_0 : w3.cell? ⟨fb,0,none⟩ = some (.string ⟨fr.toArray⟩):=F3.out.cell 0 0 rfl rfl; have k0_1 : w3.cell? ⟨fb,1,none⟩ = some (.int .i64 (f1 : Int)):=F3.out.cell 0 1 rfl rfl; have k0_2 : w3.cell? ⟨fb,2,none⟩ = some (.int .i64 (f2 : Int)):=F3.out.cell 0 2 rfl rfl
  go_upto_region 5 with fail
  have F4:=Live.ha F3 #[.string ⟨fr.toArray⟩,.int .i64 (f1 : Int),.int .i64 (f2 : Int)] 56
  generalize w3.alloc (.cells #[.string ⟨fr.toArray⟩,.int .i64 (f1 : Int),.int .i64 (f2 : Int)] 56) = w4 at F4 ⊢
  generalize w3.heap.size = tb at F4 ⊢
  clear F3 k0_0 k0_1 k0_2
  have k0_0 : w4.cell? ⟨tb,0,none⟩ = some (.string ⟨fr.toArray⟩):=F4.out.cell 0 0 rfl rfl; have k0_1 : w4.cell? ⟨tb,1,none⟩ = some (.int .i64 (f1 : Int)):=F4.out.cell 0 1 rfl rfl; have k0_2 : w4.cell? ⟨tb,2,none⟩ = some (.int .i64 (f2 : Int)):=F4.out.cell 0 2 rfl rfl
  have k1_0 : w4.cell? ⟨fb,0,none⟩ = some (.string ⟨fr.toArray⟩):=F4.out.cell 1 0 rfl rfl; have k1_1 : w4.cell? ⟨fb,1,none⟩ = some (.int .i64 (f1 : Int)):=F4.out.cell 1 1 rfl rfl; have k1_2 : w4.cell? ⟨fb,2,none⟩ = some (.int .i64 (f2 : Int)):=F4.out.cell 1 2 rfl rfl
  have k2_0 : w4.cell? ⟨xb,0,none⟩ = some (.int .i64 2):=F4.out.cell 2 0 rfl rfl; have k2_1 : w4.cell? ⟨xb,1,none⟩ = some (.string ⟨fr.toArray⟩):=F4.out.cell 2 1 rfl rfl; have k2_2 : w4.cell? ⟨xb,2,none⟩ = some (.int .i64 (f2 : Int)):=F4.out.cell 2 2 rfl rfl; have k2_3 : w4.cell? ⟨xb,3,none⟩ = some (.string ⟨dt.toArray⟩):=F4.out.cell 2 3 rfl rfl; have k2_4 : w4.cell? ⟨xb,4,none⟩ = some (.int .i64 am):=F4.out.cell 2 4 rfl rfl; have k2_5 : w4.cell? ⟨xb,5,none⟩ = some (.string ⟨ky.toArray⟩):=F4.out.cell 2 5 rfl rfl; have k2_6 : w4.cell? ⟨xb,6,none⟩ = some (.string ⟨vl.toArray⟩):=F4.out.cell 2 6 rfl rfl; have k2_7 : w4.cell? ⟨xb,7,none⟩ = some (.slice B mm.length m):=F4.out.cell 2 7 rfl rfl
  go_wp2_with fail
  refine (HPt.out _ F4.out.b).mono ?_
  rintro e w6 ⟨A6,n6,c6,rfl,hb,hI,_⟩
  have I6 : Hid (IAt w6 A6 n6 c6 (Trie.put t (Nib.of (100 :: 58 :: ky)) vl) ∧ ∀ a,A6 = some a → a.block ≠ fb):=Lib.hid ⟨(hI rfl).1,fun a e=>by have:=(hI rfl).2 a e; have:=F4.out.lt 1 rfl; omega⟩
  have F6:=Live.hb F4 hb
  clear hb hI F4 HPt k0_0 k0_1 k0_2 k1_0 k1_1 k1_2 k2_0 k2_1 k2_2 k2_3 k2_4 k2_5 k2_6 k2_7 hsum hsum2 hsum3
  have HVf : Hid (∀ W,Calls Tryz.prog 55 #[.agg #[.string ⟨fr.toArray⟩,.int .i64 ((f1 : Nat) : Int),.int .i64 ((f2 + 1 : Nat) : Int)]] W (Ret W (.string ⟨(Ex.writA (f1,f2 + 1)).toArray⟩))):=Lib.hid (fun W=>ref16_Value W fr f1 (f2 + 1) (by have:=HGd.out.2.2; unfold Ex.maxA at this; omega) (by have:=HF2.out; unfold Ex.maxA at this; omega))
  have z02 : w6.cell? ⟨fb,2,none⟩ = some (.int .i64 (f2 : Int)):=F6.out.cell 1 2 rfl rfl
  have fz2 : w6.frozen? ⟨fb,2,none⟩ = false:=F6.out.frozen 1 2 rfl
  go_upto_region 33 with fail
  have F7:=Live.hs F6 1 2 (.int .i64 ((f2 : Int) + 1)) rfl
  simp only [List.set_cons_zero,List.setIfInBounds_toArray,List.set_cons_succ] at F7
  have I7:=Lib.hid (I6.out.1.grown (grown_cell (World.grownBy.refl w6 (some fb)) 2 (.int .i64 ((f2 : Int) + 1))) I6.out.2)
  generalize w6.setCell ⟨fb,2,none⟩ _ = w7 at F7 I7 ⊢
  rw [show (f2 : Int) + 1 = ((f2 + 1 : Nat) : Int) by omega] at F7
  clear z02 fz2 F6
  have HPf : Hid (∀ W,Below w7.heap.size w7 W → Calls Tryz.prog 47 #[.slice A6 n6 c6,.string ⟨(97 :: 58 :: fr).toArray⟩,.string ⟨(Ex.writA (f1,f2 + 1)).toArray⟩] W (DoIEnd W (Trie.put (Trie.put t (Nib.of (100 :: 58 :: ky)) vl) (Nib.of (97 :: 58 :: fr)) (Ex.writA (f1,f2 + 1))) 0)):=Lib.hid (fun W hW=>items_Put W (Trie.put t (Nib.of (100 :: 58 :: ky)) vl) HGd.out.1 HGd.out.2.1 A6 n6 c6 (I7.out.next hW) _ _ (Ex.putCode_a HNm.out (by have:=HGd.out.2.2; unfold Ex.maxA at this; simp only; omega) (by have:=HF2.out; unfold Ex.maxA at this; simp only; omega)) (by have:=HNm.out; simp only [List.length_cons]; omega) (by have:=(Ex.writA_len (p:=(f1,f2 + 1)) (by have:=HGd.out.2.2; unfold Ex.maxA at this; simp only; omega) (by have:=HF2.out; unfold Ex.maxA at this; simp only; omega)).2; omega))
  have HE2 : Hid (X = (Trie.put (Trie.put t (Nib.of (100 :: 58 :: ky)) vl) (Nib.of (97 :: 58 :: fr)) (Ex.writA (f1,f2 + 1)),0)):=HE
  have hsumf : 2 + fr.length ≤ 9223372036854775807:=by have:=HNm.out; omega
  have hsumf2 : fr.length + 2 ≤ 9223372036854775807:=by omega
  have hsumf3 : fr.length + 1 + 1 ≤ 9223372036854775807:=by omega
  have hnf1 : (9223372036854775807 < 2 + fr.length) = False:=by simp; omega
  have hnf2 : (9223372036854775807 < fr.length + 2) = False:=by simp; omega
  have hnf3 : (9223372036854775807 < fr.length + 1 + 1) = False:=by simp; omega
  clear HE HGd HF2 HF1 HNm HCn HGo HIt HRd I7
  generalize Ex.writA (f1,f2 + 1) = wr at *
  generalize Trie.put (Trie.put t (Nib.of (100 :: 58 :: ky)) vl) (Nib.of (97 :: 58 :: fr)) wr = tr at *
  generalize f2 + 1 = f3 at *
  have F:=Lib.hid (Live.start w7)
  have HFw:=Lib.hid F7.out.b
  have d0 : w7.cell? ⟨fb,0,none⟩ = some (.string ⟨fr.toArray⟩):=F7.out.cell 1 0 rfl rfl
  have d1 : w7.cell? ⟨fb,1,none⟩ = some (.int .i64 ((f1 : Nat) : Int)):=F7.out.cell 1 1 rfl rfl
  have d2 : w7.cell? ⟨fb,2,none⟩ = some (.int .i64 ((f3 : Nat) : Int)):=F7.out.cell 1 2 rfl rfl
  have d3 : w7.cell? ⟨xb,1,none⟩ = some (.string ⟨fr.toArray⟩):=F7.out.cell 2 1 rfl rfl
  have FX:=F7
  go_region_held3 (fun w'=>w'.cell? ⟨fb,0,none⟩ = some (.string ⟨fr.toArray⟩) ∧ w'.cell? ⟨fb,1,none⟩ = some (.int .i64 ((f1 : Nat) : Int)) ∧ w'.cell? ⟨fb,2,none⟩ = some (.int .i64 ((f3 : Nat) : Int)) ∧ w'.cell? ⟨xb,1,none⟩ = some (.string ⟨fr.toArray⟩)) (first | go_keep | (refine ⟨?_, ?_, ?_, ?_⟩ <;> assumption)) (first | (go_at_call 55; ((with_reducible refine (HVf.out _).mono ?_); (rintro e w8 ⟨rfl,hb⟩; (first | have F:=Live.hb F hb | have F:=Live.hbd F hb); (first | have FX:=Live.hb FX hb | have FX:=Live.hbd FX hb); clear hb; have d0 : w8.cell? ⟨fb,0,none⟩ = some (.string ⟨fr.toArray⟩):=FX.out.cell 1 0 rfl rfl; have d1 : w8.cell? ⟨fb,1,none⟩ = some (.int .i64 ((f1 : Nat) : Int)):=FX.out.cell 1 1 rfl rfl; have d2 : w8.cell? ⟨fb,2,none⟩ = some (.int .i64 ((f3 : Nat) : Int)):=FX.out.cell 1 2 rfl rfl; have d3 : w8.cell? ⟨xb,1,none⟩ = some (.string ⟨fr.toArray⟩):=FX.out.cell 2 1 rfl rfl))) | (go_at_call 47; ((with_reducible refine (HPf.out _ ?_).mono ?_); (first | exact F.out.b | exact F.out.b.drew); (rintro e w9 ⟨A9,n9,c9,rfl,hb,hI,_⟩; have I9:=Lib.hid (hI rfl); have FY:=FX; (first | have FX:=Live.hb FX hb | have FX:=Live.hbd FX hb); have FRE : Hid (∀ a,A9 = some a → w.heap.size ≤ a.block):=Lib.hid (fun a e=>Nat.le_trans FY.out.b.size (I9.out.2 a e)); clear hb hI FY; have d0 : w9.cell? ⟨fb,0,none⟩ = some (.string ⟨fr.toArray⟩):=FX.out.cell 1 0 rfl rfl; have d1 : w9.cell? ⟨fb,1,none⟩ = some (.int .i64 ((f1 : Nat) : Int)):=FX.out.cell 1 1 rfl rfl; have d2 : w9.cell? ⟨fb,2,none⟩ = some (.int .i64 ((f3 : Nat) : Int)):=FX.out.cell 1 2 rfl rfl; have d3 : w9.cell? ⟨xb,1,none⟩ = some (.string ⟨fr.toArray⟩):=FX.out.cell 2 1 rfl rfl))))
  all_goals go_wp2_with fail
  all_goals exact HP.out _ 0 _ _ _ _ HE2.out FX.out.b (fun _=>⟨I9.out.1,FRE.out⟩) (fun h=>absurd rfl h)
 ·subst k
  clear z1 z2 z3 z4
  have hkw:=Ex.kindW_3 (t:=t) (x:=⟨3,fr,f2,dt,am,ky,vl,mm⟩) (f:=(f1,f2)) (tt:=(0,0)) rfl
  simp only at hkw
  have hsum : 2 + ky.length ≤ 9223372036854775807:=by omega
  have hsum2 : ky.length + 2 ≤ 9223372036854775807:=by omega
  have hsum3 : ky.length + 1 + 1 ≤ 9223372036854775807:=by omega
  have HDl : Hid (∀ W,Below w.heap.size w W → Calls Tryz.prog 56 #[.slice A n c,.string ⟨(100 :: 58 :: ky).toArray⟩] W (DoIEnd W (Trie.del t (Nib.of (100 :: 58 :: ky))) (Trie.getW t (100 :: 58 :: ky)).2)):=Lib.hid (fun W hW=>items_Del W t HGo.out (by have:=HCn.out; omega) A n c (HIt.out.next hW) _ (by simp only [List.length_cons]; omega))
  by_cases g1 : (Trie.getW t (Ex.dKey ky)).2 = 0
  ·rw [if_pos g1] at hkw
   rw [hkw] at hX2 hgd
   have HE : Hid (X = (Trie.put (Trie.del t (Nib.of (Ex.dKey ky))) (Nib.of (Ex.aKey fr)) (Ex.writA (f1,f2 + 1)),0)):=Lib.hid (by rw [← hX2]; exact if_pos rfl)
   have HGd : Hid (Trie.Good (Trie.del t (Nib.of (100 :: 58 :: ky))) ∧ Trie.count (Trie.del t (Nib.of (100 :: 58 :: ky))) ≤ 1000 ∧ f1 ≤ Ex.maxA):=Lib.hid ⟨hgd.1,by have:=HCn.out; have h2:=hgd.2.1; simp only [Ex.dKey] at h2; omega,HF1.out⟩
   simp only [Ex.dKey] at g1
   rw [g1] at HDl
   clear hkw hX2 hgd hsp hx hf hle hm g1 q1 q2 k1 k1'
   go_enter Tryz.func18,Tryz.ntmps18
   go_upto_region 1 with fail
   have F0:=Live.ha (Lib.hid (Live.start w)) #[.int .i64 3,.string ⟨fr.toArray⟩,.int .i64 (f2 : Int),.string ⟨dt.toArray⟩,.int .i64 am,.string ⟨ky.toArray⟩,.string ⟨vl.toArray⟩,.slice B mm.length m] 43
   generalize w.alloc (.cells #[.int .i64 3,.string ⟨fr.toArray⟩,.int .i64 (f2 : Int),.string ⟨dt.toArray⟩,.int .i64 am,.string ⟨ky.toArray⟩,.string ⟨vl.toArray⟩,.slice B mm.length m] 43) = W0 at F0 ⊢
   generalize w.heap.size = xb at F0 ⊢
   have k0_0 : W0.cell? ⟨xb,0,none⟩ = some (.int .i64 3):=F0.out.cell 0 0 rfl rfl; have k0_1 : W0.cell? ⟨xb,1,none⟩ = some (.string ⟨fr.toArray⟩):=F0.out.cell 0 1 rfl rfl; have k0_2 : W0.cell? ⟨xb,2,none⟩ = some (.int .i64 (f2 : Int)):=F0.out.cell 0 2 rfl rfl; have k0_3 : W0.cell? ⟨xb,3,none⟩ = some (.string ⟨dt.toArray⟩):=F0.out.cell 0 3 rfl rfl; have k0_4 : W0.cell? ⟨xb,4,none⟩ = some (.int .i64 am):=F0.out.cell 0 4 rfl rfl; have k0_5 : W0.cell? ⟨xb,5,none⟩ = some (.string ⟨ky.toArray⟩):=F0.out.cell 0 5 rfl rfl; have k0_6 : W0.cell? ⟨xb,6,none⟩ = some (.string ⟨vl.toArray⟩):=F0.out.cell 0 6 rfl rfl; have k0_7 : W0.cell? ⟨xb,7,none⟩ = some (.slice B mm.length m):=F0.out.cell 0 7 rfl rfl
   go_wp2_with fail
   refine (HFn.out _ F0.out.b).mono ?_
   rintro e w1 ⟨rfl,hb⟩
   have F1:=Live.hb F0 hb
   clear hb F0 HFn k0_0 k0_1 k0_2 k0_3 k0_4 k0_5 k0_6 k0_7
   have k0_0 : w1.cell? ⟨xb,0,none⟩ = some (.int .i64 3):=F1.out.cell 0 0 rfl rfl; have k0_1 : w1.cell? ⟨xb,1,none⟩ = some (.string ⟨fr.toArray⟩):=F1.out.cell 0 1 rfl rfl; have k0_2 : w1.cell? ⟨xb,2,none⟩ = some (.int .i64 (f2 : Int)):=F1.out.cell 0 2 rfl rfl; have k0_3 : w1.cell? ⟨xb,3,none⟩ = some (.string ⟨dt.toArray⟩):=F1.out.cell 0 3 rfl rfl; have k0_4 : w1.cell? ⟨xb,4,none⟩ = some (.int .i64 am):=F1.out.cell 0 4 rfl rfl; have k0_5 : w1.cell? ⟨xb,5,none⟩ = some (.string ⟨ky.toArray⟩):=F1.out.cell 0 5 rfl rfl; have k0_6 : w1.cell? ⟨xb,6,none⟩ = some (.string ⟨vl.toArray⟩):=F1.out.cell 0 6 rfl rfl; have k0_7 : w1.cell? ⟨xb,7,none⟩ = some (.slice B mm.length m):=F1.out.cell 0 7 rfl rfl
   go_wp2_with fail
   refine (HAf.out _ F1.out.b).mono ?_
   rintro e w2 ⟨rfl,hb⟩
   have F2:=Live.hb F1 hb
   clear hb F1 HAf k0_0 k0_1 k0_2 k0_3 k0_4 k0_5 k0_6 k0_7
   go_upto_region 4 with fail
   have F3:=Live.ha F2 #[.string ⟨fr.toArray⟩,.int .i64 (f1 : Int),.int .i64 (f2 : Int)] 56
   generalize w2.alloc (.cells #[.string ⟨fr.toArray⟩,.int .i64 (f1 : Int),.int .i64 (f2 : Int)] 56) = w3 at F3 ⊢
   generalize w2.heap.size = fb at F3 ⊢
   clear F2
   have k0_0 : w3.cell? ⟨fb,0,none⟩ = some (.string ⟨fr.toArray⟩):=F3.out.cell 0 0 rfl rfl; have k0_1 : w3.cell? ⟨fb,1,none⟩ = some (.int .i64 (f1 : Int)):=F3.out.cell 0 1 rfl rfl; have k0_2 : w3.cell? ⟨fb,2,none⟩ = some (.int .i64 (f2 : Int)):=F3.out.cell 0 2 rfl rfl
   go_upto_region 5 with fail
   have F4:=Live.ha F3 #[.string ⟨fr.toArray⟩,.int .i64 (f1 : Int),.int .i64 (f2 : Int)] 56
   generalize w3.alloc (.cells #[.string ⟨fr.toArray⟩,.int .i64 (f1 : Int),.int .i64 (f2 : Int)] 56) = w4 at F4 ⊢
   generalize w3.heap.size = tb at F4 ⊢
   clear F3 k0_0 k0_1 k0_2
   have k0_0 : w4.cell? ⟨tb,0,none⟩ = some (.string ⟨fr.toArray⟩):=F4.out.cell 0 0 rfl rfl; have k0_1 : w4.cell? ⟨tb,1,none⟩ = some (.int .i64 (f1 : Int)):=F4.out.cell 0 1 rfl rfl; have k0_2 : w4.cell? ⟨tb,2,none⟩ = some (.int .i64 (f2 : Int)):=F4.out.cell 0 2 rfl rfl
   have k1_0 : w4.cell? ⟨fb,0,none⟩ = some (.string ⟨fr.toArray⟩):=F4.out.cell 1 0 rfl rfl; have k1_1 : w4.cell? ⟨fb,1,none⟩ = some (.int .i64 (f1 : Int)):=F4.out.cell 1 1 rfl rfl; have k1_2 : w4.cell? ⟨fb,2,none⟩ = some (.int .i64 (f2 : Int)):=F4.out.cell 1 2 rfl rfl
   have k2_0 : w4.cell? ⟨xb,0,none⟩ = some (.int .i64 3):=F4.out.cell 2 0 rfl rfl; have k2_1 : w4.cell? ⟨xb,1,none⟩ = some (.string ⟨fr.toArray⟩):=F4.out.cell 2 1 rfl rfl; have k2_2 : w4.cell? ⟨xb,2,none⟩ = some (.int .i64 (f2 : Int)):=F4.out.cell 2 2 rfl rfl; have k2_3 : w4.cell? ⟨xb,3,none⟩ = some (.string ⟨dt.toArray⟩):=F4.out.cell 2 3 rfl rfl; have k2_4 : w4.cell? ⟨xb,4,none⟩ = some (.int .i64 am):=F4.out.cell 2 4 rfl rfl; have k2_5 : w4.cell? ⟨xb,5,none⟩ = some (.string ⟨ky.toArray⟩):=F4.out.cell 2 5 rfl rfl; have k2_6 : w4.cell? ⟨xb,6,none⟩ = some (.string ⟨vl.toArray⟩):=F4.out.cell 2 6 rfl rfl; have k2_7 : w4.cell? ⟨xb,7,none⟩ = some (.slice B mm.length m):=F4.out.cell 2 7 rfl rfl
   go_wp2_with fail
   refine (HDl.out _ F4.out.b).mono ?_
   rintro e w6 ⟨A6,n6,c6,rfl,hb,hI,_⟩
   have I6 : Hid (IAt w6 A6 n6 c6 (Trie.del t (Nib.of (100 :: 58 :: ky))) ∧ ∀ a,A6 = some a → a.block ≠ fb):=Lib.hid ⟨(hI rfl).1,fun a e=>by have:=(hI rfl).2 a e; have:=F4.out.lt 1 rfl; omega⟩
   have F6:=Live.hb F4 hb
   clear hb hI F4 HDl k0_0 k0_1 k0_2 k1_0 k1_1 k1_2 k2_0 k2_1 k2_2 k2_3 k2_4 k2_5 k2_6 k2_7 hsum hsum2 hsum3
   have HVf : Hid (∀ W,Calls Tryz.prog 55 #[.agg #[.string ⟨fr.toArray⟩,.int .i64 ((f1 : Nat) : Int),.int .i64 ((f2 + 1 : Nat) : Int)]] W (Ret W (.string ⟨(Ex.writA (f1,f2 + 1)).toArray⟩))):=Lib.hid (fun W=>ref16_Value W fr f1 (f2 + 1) (by have:=HGd.out.2.2; unfold Ex.maxA at this; omega) (by have:=HF2.out; unfold Ex.maxA at this; omega))
   have z02 : w6.cell? ⟨fb,2,none⟩ = some (.int .i64 (f2 : Int)):=F6.out.cell 1 2 rfl rfl
   have fz2 : w6.frozen? ⟨fb,2,none⟩ = false:=F6.out.frozen 1 2 rfl
   go_upto_region 33 with fail
   have F7:=Live.hs F6 1 2 (.int .i64 ((f2 : Int) + 1)) rfl
   simp only [List.set_cons_zero,List.setIfInBounds_toArray,List.set_cons_succ] at F7
   have I7:=Lib.hid (I6.out.1.grown (grown_cell (World.grownBy.refl w6 (some fb)) 2 (.int .i64 ((f2 : Int) + 1))) I6.out.2)
   generalize w6.setCell ⟨fb,2,none⟩ _ = w7 at F7 I7 ⊢
   rw [show (f2 : Int) + 1 = ((f2 + 1 : Nat) : Int) by omega] at F7
   clear z02 fz2 F6
   have HPf : Hid (∀ W,Below w7.heap.size w7 W → Calls Tryz.prog 47 #[.slice A6 n6 c6,.string ⟨(97 :: 58 :: fr).toArray⟩,.string ⟨(Ex.writA (f1,f2 + 1)).toArray⟩] W (DoIEnd W (Trie.put (Trie.del t (Nib.of (100 :: 58 :: ky))) (Nib.of (97 :: 58 :: fr)) (Ex.writA (f1,f2 + 1))) 0)):=Lib.hid (fun W hW=>items_Put W (Trie.del t (Nib.of (100 :: 58 :: ky))) HGd.out.1 HGd.out.2.1 A6 n6 c6 (I7.out.next hW) _ _ (Ex.putCode_a HNm.out (by have:=HGd.out.2.2; unfold Ex.maxA at this; simp only; omega) (by have:=HF2.out; unfold Ex.maxA at this; simp only; omega)) (by have:=HNm.out; simp only [List.length_cons]; omega) (by have:=(Ex.writA_len (p:=(f1,f2 + 1)) (by have:=HGd.out.2.2; unfold Ex.maxA at this; simp only; omega) (by have:=HF2.out; unfold Ex.maxA at this; simp only; omega)).2; omega))
   have HE2 : Hid (X = (Trie.put (Trie.del t (Nib.of (100 :: 58 :: ky))) (Nib.of (97 :: 58 :: fr)) (Ex.writA (f1,f2 + 1)),0)):=HE
   have hsumf : 2 + fr.length ≤ 9223372036854775807:=by have:=HNm.out; omega
   have hsumf2 : fr.length + 2 ≤ 9223372036854775807:=by omega
   have hsumf3 : fr.length + 1 + 1 ≤ 9223372036854775807:=by omega
   have hnf1 : (9223372036854775807 < 2 + fr.length) = False:=by simp; omega
   have hnf2 : (9223372036854775807 < fr.length + 2) = False:=by simp; omega
   have hnf3 : (9223372036854775807 < fr.length + 1 + 1) = False:=by simp; omega
   clear HE HGd HF2 HF1 HNm HCn HGo HIt HRd I7
   generalize Ex.writA (f1,f2 + 1) = wr at *
   generalize Trie.put (Trie.del t (Nib.of (100 :: 58 :: ky))) (Nib.of (97 :: 58 :: fr)) wr = tr at *
   generalize f2 + 1 = f3 at *
   have F:=Lib.hid (Live.start w7)
   have HFw:=Lib.hid F7.out.b
   have d0 : w7.cell? ⟨fb,0,none⟩ = some (.string ⟨fr.toArray⟩):=F7.out.cell 1 0 rfl rfl
   have d1 : w7.cell? ⟨fb,1,none⟩ = some (.int .i64 ((f1 : Nat) : Int)):=F7.out.cell 1 1 rfl rfl
   have d2 : w7.cell? ⟨fb,2,none⟩ = some (.int .i64 ((f3 : Nat) : Int)):=F7.out.cell 1 2 rfl rfl
   have d3 : w7.cell? ⟨xb,1,none⟩ = some (.string ⟨fr.toArray⟩):=F7.out.cell 2 1 rfl rfl
   have FX:=F7
   go_region_held3 (fun w'=>w'.cell? ⟨fb,0,none⟩ = some (.string ⟨fr.toArray⟩) ∧ w'.cell? ⟨fb,1,none⟩ = some (.int .i64 ((f1 : Nat) : Int)) ∧ w'.cell? ⟨fb,2,none⟩ = some (.int .i64 ((f3 : Nat) : Int)) ∧ w'.cell? ⟨xb,1,none⟩ = some (.string ⟨fr.toArray⟩)) (first | go_keep | (refine ⟨?_, ?_, ?_, ?_⟩ <;> assumption)) (first | (go_at_call 55; ((with_reducible refine (HVf.out _).mono ?_); (rintro e w8 ⟨rfl,hb⟩; (first | have F:=Live.hb F hb | have F:=Live.hbd F hb); (first | have FX:=Live.hb FX hb | have FX:=Live.hbd FX hb); clear hb; have d0 : w8.cell? ⟨fb,0,none⟩ = some (.string ⟨fr.toArray⟩):=FX.out.cell 1 0 rfl rfl; have d1 : w8.cell? ⟨fb,1,none⟩ = some (.int .i64 ((f1 : Nat) : Int)):=FX.out.cell 1 1 rfl rfl; have d2 : w8.cell? ⟨fb,2,none⟩ = some (.int .i64 ((f3 : Nat) : Int)):=FX.out.cell 1 2 rfl rfl; have d3 : w8.cell? ⟨xb,1,none⟩ = some (.string ⟨fr.toArray⟩):=FX.out.cell 2 1 rfl rfl))) | (go_at_call 47; ((with_reducible refine (HPf.out _ ?_).mono ?_); (first | exact F.out.b | exact F.out.b.drew); (rintro e w9 ⟨A9,n9,c9,rfl,hb,hI,_⟩; have I9:=Lib.hid (hI rfl); have FY:=FX; (first | have FX:=Live.hb FX hb | have FX:=Live.hbd FX hb); have FRE : Hid (∀ a,A9 = some a → w.heap.size ≤ a.block):=Lib.hid (fun a e=>Nat.le_trans FY.out.b.size (I9.out.2 a e)); clear hb hI FY; have d0 : w9.cell? ⟨fb,0,none⟩ = some (.string ⟨fr.toArray⟩):=FX.out.cell 1 0 rfl rfl; have d1 : w9.cell? ⟨fb,1,none⟩ = some (.int .i64 ((f1 : Nat) : Int)):=FX.out.cell 1 1 rfl rfl; have d2 : w9.cell? ⟨fb,2,none⟩ = some (.int .i64 ((f3 : Nat) : Int)):=FX.out.cell 1 2 rfl rfl; have d3 : w9.cell? ⟨xb,1,none⟩ = some (.string ⟨fr.toArray⟩):=FX.out.cell 2 1 rfl rfl))))
   all_goals go_wp2_with fail
   all_goals exact HP.out _ 0 _ _ _ _ HE2.out FX.out.b (fun _=>⟨I9.out.1,FRE.out⟩) (fun h=>absurd rfl h)
  ·rw [if_neg g1] at hkw
   have HE : Hid (X = (t,(Trie.getW t (100 :: 58 :: ky)).2)):=Lib.hid (by rw [← hX2,hkw]; exact if_neg g1)
   simp only [Ex.dKey] at g1
   generalize (Trie.getW t (100 :: 58 :: ky)).2 = cc at HE HDl g1
   have HC:=Lib.hid g1
   have hcc : ((cc : Int) != 0) = true:=by simp; exact g1
   clear hkw hX2 hgd hsp hx hf hle hm g1 q1 q2 k1 k1'
   go_enter Tryz.func18,Tryz.ntmps18
   go_upto_region 1 with fail
   have F0:=Live.ha (Lib.hid (Live.start w)) #[.int .i64 3,.string ⟨fr.toArray⟩,.int .i64 (f2 : Int),.string ⟨dt.toArray⟩,.int .i64 am,.string ⟨ky.toArray⟩,.string ⟨vl.toArray⟩,.slice B mm.length m] 43
   generalize w.alloc (.cells #[.int .i64 3,.string ⟨fr.toArray⟩,.int .i64 (f2 : Int),.string ⟨dt.toArray⟩,.int .i64 am,.string ⟨ky.toArray⟩,.string ⟨vl.toArray⟩,.slice B mm.length m] 43) = W0 at F0 ⊢
   generalize w.heap.size = xb at F0 ⊢
   have k0_0 : W0.cell? ⟨xb,0,none⟩ = some (.int .i64 3):=F0.out.cell 0 0 rfl rfl; have k0_1 : W0.cell? ⟨xb,1,none⟩ = some (.string ⟨fr.toArray⟩):=F0.out.cell 0 1 rfl rfl; have k0_2 : W0.cell? ⟨xb,2,none⟩ = some (.int .i64 (f2 : Int)):=F0.out.cell 0 2 rfl rfl; have k0_3 : W0.cell? ⟨xb,3,none⟩ = some (.string ⟨dt.toArray⟩):=F0.out.cell 0 3 rfl rfl; have k0_4 : W0.cell? ⟨xb,4,none⟩ = some (.int .i64 am):=F0.out.cell 0 4 rfl rfl; have k0_5 : W0.cell? ⟨xb,5,none⟩ = some (.string ⟨ky.toArray⟩):=F0.out.cell 0 5 rfl rfl; have k0_6 : W0.cell? ⟨xb,6,none⟩ = some (.string ⟨vl.toArray⟩):=F0.out.cell 0 6 rfl rfl; have k0_7 : W0.cell? ⟨xb,7,none⟩ = some (.slice B mm.length m):=F0.out.cell 0 7 rfl rfl
   go_wp2_with fail
   refine (HFn.out _ F0.out.b).mono ?_
   rintro e w1 ⟨rfl,hb⟩
   have F1:=Live.hb F0 hb
   clear hb F0 HFn k0_0 k0_1 k0_2 k0_3 k0_4 k0_5 k0_6 k0_7
   have k0_0 : w1.cell? ⟨xb,0,none⟩ = some (.int .i64 3):=F1.out.cell 0 0 rfl rfl; have k0_1 : w1.cell? ⟨xb,1,none⟩ = some (.string ⟨fr.toArray⟩):=F1.out.cell 0 1 rfl rfl; have k0_2 : w1.cell? ⟨xb,2,none⟩ = some (.int .i64 (f2 : Int)):=F1.out.cell 0 2 rfl rfl; have k0_3 : w1.cell? ⟨xb,3,none⟩ = some (.string ⟨dt.toArray⟩):=F1.out.cell 0 3 rfl rfl; have k0_4 : w1.cell? ⟨xb,4,none⟩ = some (.int .i64 am):=F1.out.cell 0 4 rfl rfl; have k0_5 : w1.cell? ⟨xb,5,none⟩ = some (.string ⟨ky.toArray⟩):=F1.out.cell 0 5 rfl rfl; have k0_6 : w1.cell? ⟨xb,6,none⟩ = some (.string ⟨vl.toArray⟩):=F1.out.cell 0 6 rfl rfl; have k0_7 : w1.cell? ⟨xb,7,none⟩ = some (.slice B mm.length m):=F1.out.cell 0 7 rfl rfl
   go_wp2_with fail
   refine (HAf.out _ F1.out.b).mono ?_
   rintro e w2 ⟨rfl,hb⟩
   have F2:=Live.hb F1 hb
   clear hb F1 HAf k0_0 k0_1 k0_2 k0_3 k0_4 k0_5 k0_6 k0_7
   go_upto_region 4 with fail
   have F3:=Live.ha F2 #[.string ⟨fr.toArray⟩,.int .i64 (f1 : Int),.int .i64 (f2 : Int)] 56
   generalize w2.alloc (.cells #[.string ⟨fr.toArray⟩,.int .i64 (f1 : Int),.int .i64 (f2 : Int)] 56) = w3 at F3 ⊢
   generalize w2.heap.size = fb at F3 ⊢
   clear F2
   have k0_0 : w3.cell? ⟨fb,0,none⟩ = some (.string ⟨fr.toArray⟩):=F3.out.cell 0 0 rfl rfl; have k0_1 : w3.cell? ⟨fb,1,none⟩ = some (.int .i64 (f1 : Int)):=F3.out.cell 0 1 rfl rfl; have k0_2 : w3.cell? ⟨fb,2,none⟩ = some (.int .i64 (f2 : Int)):=F3.out.cell 0 2 rfl rfl
   go_upto_region 5 with fail
   have F4:=Live.ha F3 #[.string ⟨fr.toArray⟩,.int .i64 (f1 : Int),.int .i64 (f2 : Int)] 56
   generalize w3.alloc (.cells #[.string ⟨fr.toArray⟩,.int .i64 (f1 : Int),.int .i64 (f2 : Int)] 56) = w4 at F4 ⊢
   generalize w3.heap.size = tb at F4 ⊢
   clear F3 k0_0 k0_1 k0_2
   have k0_0 : w4.cell? ⟨tb,0,none⟩ = some (.string ⟨fr.toArray⟩):=F4.out.cell 0 0 rfl rfl; have k0_1 : w4.cell? ⟨tb,1,none⟩ = some (.int .i64 (f1 : Int)):=F4.out.cell 0 1 rfl rfl; have k0_2 : w4.cell? ⟨tb,2,none⟩ = some (.int .i64 (f2 : Int)):=F4.out.cell 0 2 rfl rfl
   have k1_0 : w4.cell? ⟨fb,0,none⟩ = some (.string ⟨fr.toArray⟩):=F4.out.cell 1 0 rfl rfl; have k1_1 : w4.cell? ⟨fb,1,none⟩ = some (.int .i64 (f1 : Int)):=F4.out.cell 1 1 rfl rfl; have k1_2 : w4.cell? ⟨fb,2,none⟩ = some (.int .i64 (f2 : Int)):=F4.out.cell 1 2 rfl rfl
   have k2_0 : w4.cell? ⟨xb,0,none⟩ = some (.int .i64 3):=F4.out.cell 2 0 rfl rfl; have k2_1 : w4.cell? ⟨xb,1,none⟩ = some (.string ⟨fr.toArray⟩):=F4.out.cell 2 1 rfl rfl; have k2_2 : w4.cell? ⟨xb,2,none⟩ = some (.int .i64 (f2 : Int)):=F4.out.cell 2 2 rfl rfl; have k2_3 : w4.cell? ⟨xb,3,none⟩ = some (.string ⟨dt.toArray⟩):=F4.out.cell 2 3 rfl rfl; have k2_4 : w4.cell? ⟨xb,4,none⟩ = some (.int .i64 am):=F4.out.cell 2 4 rfl rfl; have k2_5 : w4.cell? ⟨xb,5,none⟩ = some (.string ⟨ky.toArray⟩):=F4.out.cell 2 5 rfl rfl; have k2_6 : w4.cell? ⟨xb,6,none⟩ = some (.string ⟨vl.toArray⟩):=F4.out.cell 2 6 rfl rfl; have k2_7 : w4.cell? ⟨xb,7,none⟩ = some (.slice B mm.length m):=F4.out.cell 2 7 rfl rfl
   go_wp2_with fail
   refine (HDl.out _ F4.out.b).mono ?_
   rintro e w6 ⟨A6,n6,c6,rfl,hb,_,_⟩
   have F6:=Live.hb F4 hb
   clear hb F4 HDl k0_0 k0_1 k0_2 k1_0 k1_1 k1_2 k2_0 k2_1 k2_2 k2_3 k2_4 k2_5 k2_6 k2_7 hsum hsum2 hsum3
   go_wp2_with fail
   exact HP.out t cc none 0 0 _ HE.out F6.out.b (fun h=>absurd h HC.out) (fun _=>rfl)
 ·subst k
  clear z1 z2 z3 z4
  have hkw:=Ex.kindW_4 (t:=t) (x:=⟨4,fr,f2,dt,am,ky,vl,mm⟩) (f:=(f1,f2)) (tt:=(0,0)) rfl
  simp only at hkw
  by_cases g1 : fr = Ex.rootB
  ·rw [if_pos g1] at hkw
   rw [hkw] at hX2 hgd
   have HE : Hid (X = (Trie.put (Trie.put t (Nib.of [115]) (Pw.digM mm)) (Nib.of (Ex.aKey fr)) (Ex.writA (f1,f2 + 1)),0)):=Lib.hid (by rw [← hX2]; exact if_pos rfl)
   have HGd : Hid (Trie.Good (Trie.put t (Nib.of [115]) (Pw.digM mm)) ∧ Trie.count (Trie.put t (Nib.of [115]) (Pw.digM mm)) ≤ 1000 ∧ f1 ≤ Ex.maxA):=Lib.hid ⟨hgd.1,by have:=HCn.out; have h2:=hgd.2.1; simp only [Ex.sKey] at h2; omega,HF1.out⟩
   have HPt : Hid (∀ W,Below w.heap.size w W → Calls Tryz.prog 47 #[.slice A n c,.string ⟨#[115]⟩,.string ⟨(Pw.digM mm).toArray⟩] W (DoIEnd W (Trie.put t (Nib.of [115]) (Pw.digM mm)) 0)):=Lib.hid (fun W hW=>items_Put W t HGo.out (by have:=HCn.out; omega) A n c (HIt.out.next hW) [115] (Pw.digM mm) (Ex.putCode_v Ex.keyed_s (by rw [Pw.digM_len hmm]; omega) (by rw [Pw.digM_len hmm]; omega)) (by simp) (by rw [Pw.digM_len hmm]; omega))
   have HDg : Hid (∀ W,Below w.heap.size w W → Calls Tryz.prog 57 #[.slice B mm.length m] W (Ret W (.string ⟨(Pw.digM mm).toArray⟩))):=Lib.hid (fun W hW=>ref05_Digest W mm HRd.out.1 B m ((HRd.out.2.below hW).more hW.size))
   have g1b : (fr == [114,111,111,116]) = true:=by rw [g1]; rfl
   clear hkw hX2 hgd hsp hx hf hle hm g1 hmm k1 k1'
   generalize Pw.digM mm = dg at *
   go_enter Tryz.func18,Tryz.ntmps18
   go_upto_region 1 with fail
   have F0:=Live.ha (Lib.hid (Live.start w)) #[.int .i64 4,.string ⟨fr.toArray⟩,.int .i64 (f2 : Int),.string ⟨dt.toArray⟩,.int .i64 am,.string ⟨ky.toArray⟩,.string ⟨vl.toArray⟩,.slice B mm.length m] 43
   generalize w.alloc (.cells #[.int .i64 4,.string ⟨fr.toArray⟩,.int .i64 (f2 : Int),.string ⟨dt.toArray⟩,.int .i64 am,.string ⟨ky.toArray⟩,.string ⟨vl.toArray⟩,.slice B mm.length m] 43) = W0 at F0 ⊢
   generalize w.heap.size = xb at F0 ⊢
   have k0_0 : W0.cell? ⟨xb,0,none⟩ = some (.int .i64 4):=F0.out.cell 0 0 rfl rfl; have k0_1 : W0.cell? ⟨xb,1,none⟩ = some (.string ⟨fr.toArray⟩):=F0.out.cell 0 1 rfl rfl; have k0_2 : W0.cell? ⟨xb,2,none⟩ = some (.int .i64 (f2 : Int)):=F0.out.cell 0 2 rfl rfl; have k0_3 : W0.cell? ⟨xb,3,none⟩ = some (.string ⟨dt.toArray⟩):=F0.out.cell 0 3 rfl rfl; have k0_4 : W0.cell? ⟨xb,4,none⟩ = some (.int .i64 am):=F0.out.cell 0 4 rfl rfl; have k0_5 : W0.cell? ⟨xb,5,none⟩ = some (.string ⟨ky.toArray⟩):=F0.out.cell 0 5 rfl rfl; have k0_6 : W0.cell? ⟨xb,6,none⟩ = some (.string ⟨vl.toArray⟩):=F0.out.cell 0 6 rfl rfl; have k0_7 : W0.cell? ⟨xb,7,none⟩ = some (.slice B mm.length m):=F0.out.cell 0 7 rfl rfl
   go_wp2_with fail
   refine (HFn.out _ F0.out.b).mono ?_
   rintro e w1 ⟨rfl,hb⟩
   have F1:=Live.hb F0 hb
   clear hb F0 HFn k0_0 k0_1 k0_2 k0_3 k0_4 k0_5 k0_6 k0_7
   have k0_0 : w1.cell? ⟨xb,0,none⟩ = some (.int .i64 4):=F1.out.cell 0 0 rfl rfl; have k0_1 : w1.cell? ⟨xb,1,none⟩ = some (.string ⟨fr.toArray⟩):=F1.out.cell 0 1 rfl rfl; have k0_2 : w1.cell? ⟨xb,2,none⟩ = some (.int .i64 (f2 : Int)):=F1.out.cell 0 2 rfl rfl; have k0_3 : w1.cell? ⟨xb,3,none⟩ = some (.string ⟨dt.toArray⟩):=F1.out.cell 0 3 rfl rfl; have k0_4 : w1.cell? ⟨xb,4,none⟩ = some (.int .i64 am):=F1.out.cell 0 4 rfl rfl; have k0_5 : w1.cell? ⟨xb,5,none⟩ = some (.string ⟨ky.toArray⟩):=F1.out.cell 0 5 rfl rfl; have k0_6 : w1.cell? ⟨xb,6,none⟩ = some (.string ⟨vl.toArray⟩):=F1.out.cell 0 6 rfl rfl; have k0_7 : w1.cell? ⟨xb,7,none⟩ = some (.slice B mm.length m):=F1.out.cell 0 7 rfl rfl
   go_wp2_with fail
   refine (HAf.out _ F1.out.b).mono ?_
   rintro e w2 ⟨rfl,hb⟩
   have F2:=Live.hb F1 hb
   clear hb F1 HAf k0_0 k0_1 k0_2 k0_3 k0_4 k0_5 k0_6 k0_7
   go_upto_region 4 with fail
   have F3:=Live.ha F2 #[.string ⟨fr.toArray⟩,.int .i64 (f1 : Int),.int .i64 (f2 : Int)] 56
   generalize w2.alloc (.cells #[.string ⟨fr.toArray⟩,.int .i64 (f1 : Int),.int .i64 (f2 : Int)] 56) = w3 at F3 ⊢
   generalize w2.heap.size = fb at F3 ⊢
   clear F2
   have k0_0 : w3.cell? ⟨fb,0,none⟩ = some (.string ⟨fr.toArray⟩):=F3.out.cell 0 0 rfl rfl; have k0_1 : w3.cell? ⟨fb,1,none⟩ = some (.int .i64 (f1 : Int)):=F3.out.cell 0 1 rfl rfl; have k0_2 : w3.cell? ⟨fb,2,none⟩ = some (.int .i64 (f2 : Int)):=F3.out.cell 0 2 rfl rfl
   go_upto_region 5 with fail
   have F4:=Live.ha F3 #[.string ⟨fr.toArray⟩,.int .i64 (f1 : Int),.int .i64 (f2 : Int)] 56
   generalize w3.alloc (.cells #[.string ⟨fr.toArray⟩,.int .i64 (f1 : Int),.int .i64 (f2 : Int)] 56) = w4 at F4 ⊢
   generalize w3.heap.size = tb at F4 ⊢
   clear F3 k0_0 k0_1 k0_2
   have k0_0 : w4.cell? ⟨tb,0,none⟩ = some (.string ⟨fr.toArray⟩):=F4.out.cell 0 0 rfl rfl; have k0_1 : w4.cell? ⟨tb,1,none⟩ = some (.int .i64 (f1 : Int)):=F4.out.cell 0 1 rfl rfl; have k0_2 : w4.cell? ⟨tb,2,none⟩ = some (.int .i64 (f2 : Int)):=F4.out.cell 0 2 rfl rfl
   have k1_0 : w4.cell? ⟨fb,0,none⟩ = some (.string ⟨fr.toArray⟩):=F4.out.cell 1 0 rfl rfl; have k1_1 : w4.cell? ⟨fb,1,none⟩ = some (.int .i64 (f1 : Int)):=F4.out.cell 1 1 rfl rfl; have k1_2 : w4.cell? ⟨fb,2,none⟩ = some (.int .i64 (f2 : Int)):=F4.out.cell 1 2 rfl rfl
   have k2_0 : w4.cell? ⟨xb,0,none⟩ = some (.int .i64 4):=F4.out.cell 2 0 rfl rfl; have k2_1 : w4.cell? ⟨xb,1,none⟩ = some (.string ⟨fr.toArray⟩):=F4.out.cell 2 1 rfl rfl; have k2_2 : w4.cell? ⟨xb,2,none⟩ = some (.int .i64 (f2 : Int)):=F4.out.cell 2 2 rfl rfl; have k2_3 : w4.cell? ⟨xb,3,none⟩ = some (.string ⟨dt.toArray⟩):=F4.out.cell 2 3 rfl rfl; have k2_4 : w4.cell? ⟨xb,4,none⟩ = some (.int .i64 am):=F4.out.cell 2 4 rfl rfl; have k2_5 : w4.cell? ⟨xb,5,none⟩ = some (.string ⟨ky.toArray⟩):=F4.out.cell 2 5 rfl rfl; have k2_6 : w4.cell? ⟨xb,6,none⟩ = some (.string ⟨vl.toArray⟩):=F4.out.cell 2 6 rfl rfl; have k2_7 : w4.cell? ⟨xb,7,none⟩ = some (.slice B mm.length m):=F4.out.cell 2 7 rfl rfl
   go_wp2_with fail
   refine (HDg.out _ F4.out.b).mono ?_
   rintro e w5 ⟨rfl,hb⟩
   have F5:=Live.hb F4 hb
   clear hb F4 HDg k0_0 k0_1 k0_2 k1_0 k1_1 k1_2 k2_0 k2_1 k2_2 k2_3 k2_4 k2_5 k2_6 k2_7
   go_wp2_with fail
   refine (HPt.out _ F5.out.b).mono ?_
   rintro e w6 ⟨A6,n6,c6,rfl,hb,hI,_⟩
   have I6 : Hid (IAt w6 A6 n6 c6 (Trie.put t (Nib.of [115]) dg) ∧ ∀ a,A6 = some a → a.block ≠ fb):=Lib.hid ⟨(hI rfl).1,fun a e=>by have:=(hI rfl).2 a e; have:=F5.out.lt 1 rfl; omega⟩
   have F6:=Live.hb F5 hb
   clear hb hI F5 HPt
   have HVf : Hid (∀ W,Calls Tryz.prog 55 #[.agg #[.string ⟨fr.toArray⟩,.int .i64 ((f1 : Nat) : Int),.int .i64 ((f2 + 1 : Nat) : Int)]] W (Ret W (.string ⟨(Ex.writA (f1,f2 + 1)).toArray⟩))):=Lib.hid (fun W=>ref16_Value W fr f1 (f2 + 1) (by have:=HGd.out.2.2; unfold Ex.maxA at this; omega) (by have:=HF2.out; unfold Ex.maxA at this; omega))
   have z02 : w6.cell? ⟨fb,2,none⟩ = some (.int .i64 (f2 : Int)):=F6.out.cell 1 2 rfl rfl
   have fz2 : w6.frozen? ⟨fb,2,none⟩ = false:=F6.out.frozen 1 2 rfl
   go_upto_region 33 with fail
   have F7:=Live.hs F6 1 2 (.int .i64 ((f2 : Int) + 1)) rfl
   simp only [List.set_cons_zero,List.setIfInBounds_toArray,List.set_cons_succ] at F7
   have I7:=Lib.hid (I6.out.1.grown (grown_cell (World.grownBy.refl w6 (some fb)) 2 (.int .i64 ((f2 : Int) + 1))) I6.out.2)
   generalize w6.setCell ⟨fb,2,none⟩ _ = w7 at F7 I7 ⊢
   rw [show (f2 : Int) + 1 = ((f2 + 1 : Nat) : Int) by omega] at F7
   clear z02 fz2 F6
   have HPf : Hid (∀ W,Below w7.heap.size w7 W → Calls Tryz.prog 47 #[.slice A6 n6 c6,.string ⟨(97 :: 58 :: fr).toArray⟩,.string ⟨(Ex.writA (f1,f2 + 1)).toArray⟩] W (DoIEnd W (Trie.put (Trie.put t (Nib.of [115]) dg) (Nib.of (97 :: 58 :: fr)) (Ex.writA (f1,f2 + 1))) 0)):=Lib.hid (fun W hW=>items_Put W (Trie.put t (Nib.of [115]) dg) HGd.out.1 HGd.out.2.1 A6 n6 c6 (I7.out.next hW) _ _ (Ex.putCode_a HNm.out (by have:=HGd.out.2.2; unfold Ex.maxA at this; simp only; omega) (by have:=HF2.out; unfold Ex.maxA at this; simp only; omega)) (by have:=HNm.out; simp only [List.length_cons]; omega) (by have:=(Ex.writA_len (p:=(f1,f2 + 1)) (by have:=HGd.out.2.2; unfold Ex.maxA at this; simp only; omega) (by have:=HF2.out; unfold Ex.maxA at this; simp only; omega)).2; omega))
   have HE2 : Hid (X = (Trie.put (Trie.put t (Nib.of [115]) dg) (Nib.of (97 :: 58 :: fr)) (Ex.writA (f1,f2 + 1)),0)):=HE
   have hsumf : 2 + fr.length ≤ 9223372036854775807:=by have:=HNm.out; omega
   have hsumf2 : fr.length + 2 ≤ 9223372036854775807:=by omega
   have hsumf3 : fr.length + 1 + 1 ≤ 9223372036854775807:=by omega
   have hnf1 : (9223372036854775807 < 2 + fr.length) = False:=by simp; omega
   have hnf2 : (9223372036854775807 < fr.length + 2) = False:=by simp; omega
   have hnf3 : (9223372036854775807 < fr.length + 1 + 1) = False:=by simp; omega
   clear HE HGd HF2 HF1 HNm HCn HGo HIt HRd I7
   generalize Ex.writA (f1,f2 + 1) = wr at *
   generalize Trie.put (Trie.put t (Nib.of [115]) dg) (Nib.of (97 :: 58 :: fr)) wr = tr at *
   generalize f2 + 1 = f3 at *
   have F:=Lib.hid (Live.start w7)
   have HFw:=Lib.hid F7.out.b
   have d0 : w7.cell? ⟨fb,0,none⟩ = some (.string ⟨fr.toArray⟩):=F7.out.cell 1 0 rfl rfl
   have d1 : w7.cell? ⟨fb,1,none⟩ = some (.int .i64 ((f1 : Nat) : Int)):=F7.out.cell 1 1 rfl rfl
   have d2 : w7.cell? ⟨fb,2,none⟩ = some (.int .i64 ((f3 : Nat) : Int)):=F7.out.cell 1 2 rfl rfl
   have d3 : w7.cell? ⟨xb,1,none⟩ = some (.string ⟨fr.toArray⟩):=F7.out.cell 2 1 rfl rfl
   have FX:=F7
   go_region_held3 (fun w'=>w'.cell? ⟨fb,0,none⟩ = some (.string ⟨fr.toArray⟩) ∧ w'.cell? ⟨fb,1,none⟩ = some (.int .i64 ((f1 : Nat) : Int)) ∧ w'.cell? ⟨fb,2,none⟩ = some (.int .i64 ((f3 : Nat) : Int)) ∧ w'.cell? ⟨xb,1,none⟩ = some (.string ⟨fr.toArray⟩)) (first | go_keep | (refine ⟨?_, ?_, ?_, ?_⟩ <;> assumption)) (first | (go_at_call 55; ((with_reducible refine (HVf.out _).mono ?_); (rintro e w8 ⟨rfl,hb⟩; (first | have F:=Live.hb F hb | have F:=Live.hbd F hb); (first | have FX:=Live.hb FX hb | have FX:=Live.hbd FX hb); clear hb; have d0 : w8.cell? ⟨fb,0,none⟩ = some (.string ⟨fr.toArray⟩):=FX.out.cell 1 0 rfl rfl; have d1 : w8.cell? ⟨fb,1,none⟩ = some (.int .i64 ((f1 : Nat) : Int)):=FX.out.cell 1 1 rfl rfl; have d2 : w8.cell? ⟨fb,2,none⟩ = some (.int .i64 ((f3 : Nat) : Int)):=FX.out.cell 1 2 rfl rfl; have d3 : w8.cell? ⟨xb,1,none⟩ = some (.string ⟨fr.toArray⟩):=FX.out.cell 2 1 rfl rfl))) | (go_at_call 47; ((with_reducible refine (HPf.out _ ?_).mono ?_); (first | exact F.out.b | exact F.out.b.drew); (rintro e w9 ⟨A9,n9,c9,rfl,hb,hI,_⟩; have I9:=Lib.hid (hI rfl); have FY:=FX; (first | have FX:=Live.hb FX hb | have FX:=Live.hbd FX hb); have FRE : Hid (∀ a,A9 = some a → w.heap.size ≤ a.block):=Lib.hid (fun a e=>Nat.le_trans FY.out.b.size (I9.out.2 a e)); clear hb hI FY; have d0 : w9.cell? ⟨fb,0,none⟩ = some (.string ⟨fr.toArray⟩):=FX.out.cell 1 0 rfl rfl; have d1 : w9.cell? ⟨fb,1,none⟩ = some (.int .i64 ((f1 : Nat) : Int)):=FX.out.cell 1 1 rfl rfl; have d2 : w9.cell? ⟨fb,2,none⟩ = some (.int .i64 ((f3 : Nat) : Int)):=FX.out.cell 1 2 rfl rfl; have d3 : w9.cell? ⟨xb,1,none⟩ = some (.string ⟨fr.toArray⟩):=FX.out.cell 2 1 rfl rfl))))
   all_goals go_wp2_with fail
   all_goals exact HP.out _ 0 _ _ _ _ HE2.out FX.out.b (fun _=>⟨I9.out.1,FRE.out⟩) (fun h=>absurd rfl h)
  ·rw [if_neg g1] at hkw
   have HE : Hid (X = (t,162)):=Lib.hid (by rw [← hX2,hkw]; rfl)
   have g1b : (fr == [114,111,111,116]) = false:=by rw [beq_eq_false_iff_ne]; exact g1
   clear hkw hX2 hgd hsp hx hf hle hm g1 hmm k1 k1'
   go_enter Tryz.func18,Tryz.ntmps18
   go_upto_region 1 with fail
   have F0:=Live.ha (Lib.hid (Live.start w)) #[.int .i64 4,.string ⟨fr.toArray⟩,.int .i64 (f2 : Int),.string ⟨dt.toArray⟩,.int .i64 am,.string ⟨ky.toArray⟩,.string ⟨vl.toArray⟩,.slice B mm.length m] 43
   generalize w.alloc (.cells #[.int .i64 4,.string ⟨fr.toArray⟩,.int .i64 (f2 : Int),.string ⟨dt.toArray⟩,.int .i64 am,.string ⟨ky.toArray⟩,.string ⟨vl.toArray⟩,.slice B mm.length m] 43) = W0 at F0 ⊢
   generalize w.heap.size = xb at F0 ⊢
   have k0_0 : W0.cell? ⟨xb,0,none⟩ = some (.int .i64 4):=F0.out.cell 0 0 rfl rfl; have k0_1 : W0.cell? ⟨xb,1,none⟩ = some (.string ⟨fr.toArray⟩):=F0.out.cell 0 1 rfl rfl; have k0_2 : W0.cell? ⟨xb,2,none⟩ = some (.int .i64 (f2 : Int)):=F0.out.cell 0 2 rfl rfl; have k0_3 : W0.cell? ⟨xb,3,none⟩ = some (.string ⟨dt.toArray⟩):=F0.out.cell 0 3 rfl rfl; have k0_4 : W0.cell? ⟨xb,4,none⟩ = some (.int .i64 am):=F0.out.cell 0 4 rfl rfl; have k0_5 : W0.cell? ⟨xb,5,none⟩ = some (.string ⟨ky.toArray⟩):=F0.out.cell 0 5 rfl rfl; have k0_6 : W0.cell? ⟨xb,6,none⟩ = some (.string ⟨vl.toArray⟩):=F0.out.cell 0 6 rfl rfl; have k0_7 : W0.cell? ⟨xb,7,none⟩ = some (.slice B mm.length m):=F0.out.cell 0 7 rfl rfl
   go_wp2_with fail
   refine (HFn.out _ F0.out.b).mono ?_
   rintro e w1 ⟨rfl,hb⟩
   have F1:=Live.hb F0 hb
   clear hb F0 HFn k0_0 k0_1 k0_2 k0_3 k0_4 k0_5 k0_6 k0_7
   have k0_0 : w1.cell? ⟨xb,0,none⟩ = some (.int .i64 4):=F1.out.cell 0 0 rfl rfl; have k0_1 : w1.cell? ⟨xb,1,none⟩ = some (.string ⟨fr.toArray⟩):=F1.out.cell 0 1 rfl rfl; have k0_2 : w1.cell? ⟨xb,2,none⟩ = some (.int .i64 (f2 : Int)):=F1.out.cell 0 2 rfl rfl; have k0_3 : w1.cell? ⟨xb,3,none⟩ = some (.string ⟨dt.toArray⟩):=F1.out.cell 0 3 rfl rfl; have k0_4 : w1.cell? ⟨xb,4,none⟩ = some (.int .i64 am):=F1.out.cell 0 4 rfl rfl; have k0_5 : w1.cell? ⟨xb,5,none⟩ = some (.string ⟨ky.toArray⟩):=F1.out.cell 0 5 rfl rfl; have k0_6 : w1.cell? ⟨xb,6,none⟩ = some (.string ⟨vl.toArray⟩):=F1.out.cell 0 6 rfl rfl; have k0_7 : w1.cell? ⟨xb,7,none⟩ = some (.slice B mm.length m):=F1.out.cell 0 7 rfl rfl
   go_wp2_with fail
   refine (HAf.out _ F1.out.b).mono ?_
   rintro e w2 ⟨rfl,hb⟩
   have F2:=Live.hb F1 hb
   clear hb F1 HAf k0_0 k0_1 k0_2 k0_3 k0_4 k0_5 k0_6 k0_7
   go_upto_region 4 with fail
   have F3:=Live.ha F2 #[.string ⟨fr.toArray⟩,.int .i64 (f1 : Int),.int .i64 (f2 : Int)] 56
   generalize w2.alloc (.cells #[.string ⟨fr.toArray⟩,.int .i64 (f1 : Int),.int .i64 (f2 : Int)] 56) = w3 at F3 ⊢
   generalize w2.heap.size = fb at F3 ⊢
   clear F2
   have k0_0 : w3.cell? ⟨fb,0,none⟩ = some (.string ⟨fr.toArray⟩):=F3.out.cell 0 0 rfl rfl; have k0_1 : w3.cell? ⟨fb,1,none⟩ = some (.int .i64 (f1 : Int)):=F3.out.cell 0 1 rfl rfl; have k0_2 : w3.cell? ⟨fb,2,none⟩ = some (.int .i64 (f2 : Int)):=F3.out.cell 0 2 rfl rfl
   go_upto_region 5 with fail
   have F4:=Live.ha F3 #[.string ⟨fr.toArray⟩,.int .i64 (f1 : Int),.int .i64 (f2 : Int)] 56
   generalize w3.alloc (.cells #[.string ⟨fr.toArray⟩,.int .i64 (f1 : Int),.int .i64 (f2 : Int)] 56) = w4 at F4 ⊢
   generalize w3.heap.size = tb at F4 ⊢
   clear F3 k0_0 k0_1 k0_2
   have k0_0 : w4.cell? ⟨tb,0,none⟩ = some (.string ⟨fr.toArray⟩):=F4.out.cell 0 0 rfl rfl; have k0_1 : w4.cell? ⟨tb,1,none⟩ = some (.int .i64 (f1 : Int)):=F4.out.cell 0 1 rfl rfl; have k0_2 : w4.cell? ⟨tb,2,none⟩ = some (.int .i64 (f2 : Int)):=F4.out.cell 0 2 rfl rfl
   have k1_0 : w4.cell? ⟨fb,0,none⟩ = some (.string ⟨fr.toArray⟩):=F4.out.cell 1 0 rfl rfl; have k1_1 : w4.cell? ⟨fb,1,none⟩ = some (.int .i64 (f1 : Int)):=F4.out.cell 1 1 rfl rfl; have k1_2 : w4.cell? ⟨fb,2,none⟩ = some (.int .i64 (f2 : Int)):=F4.out.cell 1 2 rfl rfl
   have k2_0 : w4.cell? ⟨xb,0,none⟩ = some (.int .i64 4):=F4.out.cell 2 0 rfl rfl; have k2_1 : w4.cell? ⟨xb,1,none⟩ = some (.string ⟨fr.toArray⟩):=F4.out.cell 2 1 rfl rfl; have k2_2 : w4.cell? ⟨xb,2,none⟩ = some (.int .i64 (f2 : Int)):=F4.out.cell 2 2 rfl rfl; have k2_3 : w4.cell? ⟨xb,3,none⟩ = some (.string ⟨dt.toArray⟩):=F4.out.cell 2 3 rfl rfl; have k2_4 : w4.cell? ⟨xb,4,none⟩ = some (.int .i64 am):=F4.out.cell 2 4 rfl rfl; have k2_5 : w4.cell? ⟨xb,5,none⟩ = some (.string ⟨ky.toArray⟩):=F4.out.cell 2 5 rfl rfl; have k2_6 : w4.cell? ⟨xb,6,none⟩ = some (.string ⟨vl.toArray⟩):=F4.out.cell 2 6 rfl rfl; have k2_7 : w4.cell? ⟨xb,7,none⟩ = some (.slice B mm.length m):=F4.out.cell 2 7 rfl rfl
   go_wp2_with fail
   exact HP.out t 162 none 0 0 _ HE.out F4.out.b (fun h=>absurd h (by decide)) (fun _=>rfl)
end Go.Proofs.YtomnlhbioijfhaaGreatDoor
