import Derived.Test.YtomnlhbioijfhaaDoorK27
import Derived.Test.YtomnlhbioijfhaaDoorK06
import Derived.Test.YtomnlhbioijfhaaDoorK19
import Derived.Deep.DeepCutAuto
set_option linter.unusedSimpArgs false
set_option linter.unusedVariables false
namespace Go.Proofs.YtomnlhbioijfhaaDoor
open Go.RowKit Go.Instr
attribute [local go_sem] ba_get ByteArray.mk_append_mk
attribute [local go_sem ↓] Go.wp_at_zero Go.wp_at_succ
theorem ac_same (w : World) (n : List UInt8) (a q : Int) : (Op.equalIn 10000 40 (.agg #[.string ⟨n.toArray⟩,.int .i64 a,.int .i64 q]) (.agg #[.string ⟨n.toArray⟩,.int .i64 a,.int .i64 q])).run Tryd.prog w = .ok true w:=by
 have u9:=Tryd.underlying9
 have a9:=Tryd.isAgg9
 have z9:=Tryd.sizeOf9
 have u3:=Tryd.underlying3
 have a3:=Tryd.isAgg3
 have z3:=Tryd.sizeOf3
 have hS : Tryd.prog.underlying 40 = some (.struct (Tryd.prog.fieldsOf 40)):=by kernel_rfl
 have hp : Tryd.prog.stoodInHeld 40 = false:=by kernel_rfl
 rw [show (10000 : Nat) = 9999 + 1 from rfl,run_equalIn_agg w 9999 40 _ _ hS hp]
 simp only [Program.fieldsOf,Tryd.underlying40]
 go_simp
theorem tells_plain {t : Trie.T} (h : Trie.Good t) {x : Ex.Tx} (hd : (Ex.doW t x).2 = 0) :
  (∀ n,n ≠ x.frm → n ≠ x.dst → accW (Ex.doW t x).1 n = accW t n) ∧ (∀ k,k ≠ x.key → dataW (Ex.doW t x).1 k = dataW t k) ∧
  (x.kind ≠ 4 → Trie.getW (Ex.doW t x).1 [115] = Trie.getW t [115]) ∧ (x.kind = 4 → Trie.getW (Ex.doW t x).1 [115] = (Pw.digM x.mem,0)) ∧
  (x.kind = 2 → dataW (Ex.doW t x).1 x.key = (x.val,0)) ∧ (x.kind = 3 → (dataW (Ex.doW t x).1 x.key).2 = 5) ∧
  (∃ a q,accW (Ex.doW t x).1 x.frm = ((x.frm,a,q),0) ∧ (q : Int) = x.seq + 1) ∧ x.seq ≤ 1099511627776 ∧ 0 ≤ x.seq:=by
 obtain ⟨hx,⟨d⟩⟩:=Ex.doW_done hd
 have hsp:=Ex.fineX_spec hx
 refine ⟨fun n h1 h2 => ?_,fun k h1 => ?_,fun h4 => ?_,fun h4 => ?_,fun h2 => ?_,fun h3 => ?_, ?_,hsp.2.2.1,hsp.2.1⟩
 ·unfold accW
  rw [Ex.acc_cong (Ex.do_accO d h hx n h1 h2)]
 ·unfold dataW
  rw [Ex.do_dataO d h hx k h1]
 ·have:=Ex.do_set d h hx
  rwa [if_neg h4] at this
 ·have:=Ex.do_set d h hx
  rwa [if_pos h4] at this
 ·have:=Ex.do_put d h hx h2
  unfold dataW
  rcases hsp.2.2.2 with ⟨k,_⟩ | ⟨k,_,_,_,v1,v2,q1,q2⟩ | ⟨k,_⟩ | ⟨k,_⟩
  ·omega
  ·rw [if_pos ⟨q1,q2⟩,this]
  ·omega
  ·omega
 ·have:=Ex.do_del d h hx h3
  unfold dataW
  rcases hsp.2.2.2 with ⟨k,_⟩ | ⟨k,_⟩ | ⟨k,_,_,_,_,q1,q2⟩ | ⟨k,_⟩
  ·omega
  ·omega
  ·rw [if_pos ⟨q1,q2⟩,this]
  ·omega
 ·refine ⟨(Ex.kindW t x d.f d.tt).2.2,d.f.2 + 1, ?_,by have:=d.hs; omega⟩
  unfold accW
  rw [hsp.1,if_pos rfl,Ex.do_accF d h hx]
set_option maxRecDepth 100000 in
set_option maxHeartbeats 4000000 in
theorem law_ExecTells (w : World) (A : Option Addr) (c : Nat) (l : List Ex.Ac) (B : Option Addr) (d : Nat) (set : List Pw.Mem) (C : Option Addr) (e0 : Nat) (its : List Trie.KV) (h : StartAt w A l B set C its)
  (kd : Int) (fr : List UInt8) (sq : Int) (dt : List UInt8) (am : Int) (ky vl : List UInt8) (mm : List Pw.Mem) (mA : Option Addr) (mc : Nat) (hok : OkT ⟨kd,fr,sq,dt,am,ky,vl,mm⟩) (HM : Reads w w.heap.size 2 mA mm.length (mcells mm))
  (n0 n1 : List UInt8) (hn0 : n0.length ≤ 9223372036854775807) (hn1 : n1.length ≤ 9223372036854775807) (hT : Tbl w) :
  Calls Tryd.prog 4 #[.agg #[.slice A l.length c,.slice B set.length d,.slice C its.length e0],.agg #[.int .i64 kd,.string ⟨fr.toArray⟩,.int .i64 sq,.string ⟨dt.toArray⟩,.int .i64 am,.string ⟨ky.toArray⟩,.string ⟨vl.toArray⟩,.slice mA mm.length mc],.agg #[.string ⟨n0.toArray⟩,.string ⟨n1.toArray⟩]] w fun e w'=>e = .returned (.bool true) ∧ Below w.heap.size w w':=by
 have HP : Hid (∀ w',Below w.heap.size w w' → (fun e w'=>e = Ending.returned (.bool true) ∧ Below w.heap.size w w') (Ending.returned (.bool true)) w'):=Lib.hid (fun W' a2=>⟨rfl,a2⟩)
 generalize (fun e w'=>e = Ending.returned (.bool true) ∧ Below w.heap.size w w') = P at HP ⊢
 have HTb:=Lib.hid hT
 have HMm:=Lib.hid (fun W (hW : Below w.heap.size w W)=>(HM.below hW).more hW.size)
 have HOk:=Lib.hid hok
 have HGn:=Lib.hid (fun W (hW : Below w.heap.size w W)=>law16_genesis W A c l B d set C e0 its (h.next hW) (hT.next hW))
 have HBg:=Lib.hid (fun W D (hW : Below w.heap.size w W) (hx : TxsAt W D [(⟨kd,fr,sq,dt,am,ky,vl,mm⟩,mA,mc)])=>law16_big W A c l B d set C e0 its (h.next hW) D 1 [(⟨kd,fr,sq,dt,am,ky,vl,mm⟩,mA,mc)] hx)
 have HDo:=Lib.hid (fun W t v (hW : Below w.heap.size w W) (hk : TrieP W t v) (hc : Trie.count t ≤ 1000)=>exec_Do W t v hk hc (hT.next hW) kd fr sq dt am ky vl mm mA mc hok.f hok.d hok.k hok.v hok.m ((HM.below hW).more hW.size))
 have HDg:=Lib.hid (fun W (hW : Below w.heap.size w W)=>power_Digest W mm hok.m mA mc ((HM.below hW).more hW.size) (hT.next hW))
 have HCt:=Lib.hid (Ex.genW_good l set)
 have HA0:=Lib.hid (fun W t v (hk : TrieP W t v)=>exec_Account W t v hk n0 hn0)
 have HAf:=Lib.hid (fun W t v (hk : TrieP W t v)=>exec_Account W t v hk fr hok.f)
 have HD1:=Lib.hid (fun W t v (hk : TrieP W t v)=>exec_Data W t v hk n1 hn1)
 have HDk:=Lib.hid (fun W t v (hk : TrieP W t v)=>exec_Data W t v hk ky hok.k)
 have HGs:=Lib.hid (fun W t v (hk : TrieP W t v)=>trie_Get W t v hk [115] (by simp))
 generalize Ex.genW l set = r at *
 obtain ⟨t0,cd⟩:=r
 simp only at HCt
 clear h hT hok HM hn0 hn1
 go_enter Tryd.func4,Tryd.ntmps4
 go_upto_region 1 with fail
 have F0:=Live.ha (Live.ha (Live.ha (Lib.hid (Live.start w)) #[.slice A l.length c,.slice B set.length d,.slice C its.length e0] 26) #[.int .i64 kd,.string ⟨fr.toArray⟩,.int .i64 sq,.string ⟨dt.toArray⟩,.int .i64 am,.string ⟨ky.toArray⟩,.string ⟨vl.toArray⟩,.slice mA mm.length mc] 33) #[.string ⟨n0.toArray⟩,.string ⟨n1.toArray⟩] 38
 have hz1 : (w.alloc (.cells #[.slice A l.length c,.slice B set.length d,.slice C its.length e0] 26)).heap.size = w.heap.size + 1:=by show (w.heap.push _).size = _; exact Array.size_push _
 have hz2 : ((w.alloc (.cells #[.slice A l.length c,.slice B set.length d,.slice C its.length e0] 26)).alloc (.cells #[.int .i64 kd,.string ⟨fr.toArray⟩,.int .i64 sq,.string ⟨dt.toArray⟩,.int .i64 am,.string ⟨ky.toArray⟩,.string ⟨vl.toArray⟩,.slice mA mm.length mc] 33)).heap.size = w.heap.size + 2:=by
  have : ((w.alloc (.cells #[.slice A l.length c,.slice B set.length d,.slice C its.length e0] 26)).heap.push (.cells #[.int .i64 kd,.string ⟨fr.toArray⟩,.int .i64 sq,.string ⟨dt.toArray⟩,.int .i64 am,.string ⟨ky.toArray⟩,.string ⟨vl.toArray⟩,.slice mA mm.length mc] 33 (0,0))).size = _:=Array.size_push _
  rw [hz1] at this
  exact this
 rw [hz2,hz1] at F0
 clear hz1 hz2
 obtain ⟨nb,hnb⟩ : ∃ nb,w.heap.size + 2 = nb:=⟨_,rfl⟩
 obtain ⟨xb,hxb⟩ : ∃ xb,w.heap.size + 1 = xb:=⟨_,rfl⟩
 obtain ⟨sb,hsb⟩ : ∃ sb,w.heap.size = sb:=⟨_,rfl⟩
 try rw [show w.heap.size + 1 + 1 = nb by omega]
 rw [hnb,hxb,hsb] at F0
 try rw [hnb]
 try rw [hxb]
 try rw [hsb]
 generalize World.alloc (World.alloc (World.alloc w _) _) _ = W0 at F0 ⊢
 clear hnb hxb hsb
 go_wp2_with fail
 refine (law16_works _ (HTb.out.next F0.out.b)).mono ?_
 rintro e w1 ⟨rfl,hb⟩
 have F1:=Live.hb F0 hb
 clear hb F0
 have k2_0 : w1.cell? ⟨sb,0,none⟩ = some (.slice A l.length c):=F1.out.cell 2 0 rfl rfl; have k2_1 : w1.cell? ⟨sb,1,none⟩ = some (.slice B set.length d):=F1.out.cell 2 1 rfl rfl; have k2_2 : w1.cell? ⟨sb,2,none⟩ = some (.slice C its.length e0):=F1.out.cell 2 2 rfl rfl
 go_wp2_with fail
 refine (HGn.out _ F1.out.b).mono ?_
 rintro e w2 ⟨v2,rfl,hb,hk2,hn2⟩
 have F2:=Live.hb F1 hb
 clear hb F1 k2_0 k2_1 k2_2 HGn
 simp only at hk2 hn2
 have k2_0 : w2.cell? ⟨sb,0,none⟩ = some (.slice A l.length c):=F2.out.cell 2 0 rfl rfl; have k2_1 : w2.cell? ⟨sb,1,none⟩ = some (.slice B set.length d):=F2.out.cell 2 1 rfl rfl; have k2_2 : w2.cell? ⟨sb,2,none⟩ = some (.slice C its.length e0):=F2.out.cell 2 2 rfl rfl
 have k1_0 : w2.cell? ⟨xb,0,none⟩ = some (.int .i64 kd):=F2.out.cell 1 0 rfl rfl; have k1_1 : w2.cell? ⟨xb,1,none⟩ = some (.string ⟨fr.toArray⟩):=F2.out.cell 1 1 rfl rfl; have k1_2 : w2.cell? ⟨xb,2,none⟩ = some (.int .i64 sq):=F2.out.cell 1 2 rfl rfl; have k1_3 : w2.cell? ⟨xb,3,none⟩ = some (.string ⟨dt.toArray⟩):=F2.out.cell 1 3 rfl rfl; have k1_4 : w2.cell? ⟨xb,4,none⟩ = some (.int .i64 am):=F2.out.cell 1 4 rfl rfl; have k1_5 : w2.cell? ⟨xb,5,none⟩ = some (.string ⟨ky.toArray⟩):=F2.out.cell 1 5 rfl rfl; have k1_6 : w2.cell? ⟨xb,6,none⟩ = some (.string ⟨vl.toArray⟩):=F2.out.cell 1 6 rfl rfl; have k1_7 : w2.cell? ⟨xb,7,none⟩ = some (.slice mA mm.length mc):=F2.out.cell 1 7 rfl rfl
 by_cases hc : cd = 0
 rotate_left
 ·obtain rfl:=hn2 hc
  clear hk2 hn2 hc
  go_wp2_with fail
  have F3:=Live.ha F2 #[.int .i64 kd,.string ⟨fr.toArray⟩,.int .i64 sq,.string ⟨dt.toArray⟩,.int .i64 am,.string ⟨ky.toArray⟩,.string ⟨vl.toArray⟩,.slice mA mm.length mc] 33
  generalize w2.alloc (.cells #[.int .i64 kd,.string ⟨fr.toArray⟩,.int .i64 sq,.string ⟨dt.toArray⟩,.int .i64 am,.string ⟨ky.toArray⟩,.string ⟨vl.toArray⟩,.slice mA mm.length mc] 33) = w2b at F3 ⊢
  generalize w2.heap.size = lb at F3 ⊢
  refine (HBg.out _ (some ⟨lb,0,none⟩) F3.out.b ⟨reads_blk16 (F3.out.blk 0 rfl) (by simp),fun p hp=>by rw [List.mem_singleton] at hp; subst hp; exact HMm.out _ F3.out.b,fun p hp=>by rw [List.mem_singleton] at hp; subst hp; exact HOk.out,by simp⟩).mono ?_
  rintro e w3 ⟨b,rfl,hb,_⟩
  have F4:=Live.hb F3 hb
  clear hb F2 F3 k2_0 k2_1 k2_2 k1_0 k1_1 k1_2 k1_3 k1_4 k1_5 k1_6 k1_7 HBg
  cases b with
  | true =>
   go_wp2_with fail
   exact HP.out _ F4.out.b
  | false =>
   go_wp2_with fail
   exact HP.out _ F4.out.b
 have K2:=Lib.hid (hk2 hc)
 obtain ⟨_,p2,x2,rfl,_⟩:=id K2.out
 clear hk2 hn2 hc
 go_wp2_with fail
 have F3:=Live.ha F2 #[.int .i64 kd,.string ⟨fr.toArray⟩,.int .i64 sq,.string ⟨dt.toArray⟩,.int .i64 am,.string ⟨ky.toArray⟩,.string ⟨vl.toArray⟩,.slice mA mm.length mc] 33
 have K2b:=Lib.hid (K2.out.next ((Below.refl _ w2).alloc (Nat.le_refl _) (.cells #[.int .i64 kd,.string ⟨fr.toArray⟩,.int .i64 sq,.string ⟨dt.toArray⟩,.int .i64 am,.string ⟨ky.toArray⟩,.string ⟨vl.toArray⟩,.slice mA mm.length mc] 33)))
 generalize w2.alloc (.cells #[.int .i64 kd,.string ⟨fr.toArray⟩,.int .i64 sq,.string ⟨dt.toArray⟩,.int .i64 am,.string ⟨ky.toArray⟩,.string ⟨vl.toArray⟩,.slice mA mm.length mc] 33) = w2b at F3 K2b ⊢
 generalize w2.heap.size = lb at F3 ⊢
 refine (HBg.out _ (some ⟨lb,0,none⟩) F3.out.b ⟨reads_blk16 (F3.out.blk 0 rfl) (by simp),fun p hp=>by rw [List.mem_singleton] at hp; subst hp; exact HMm.out _ F3.out.b,fun p hp=>by rw [List.mem_singleton] at hp; subst hp; exact HOk.out,by simp⟩).mono ?_
 rintro e w3 ⟨b,rfl,hb,_⟩
 have F4:=Live.hb F3 hb
 have K3:=Lib.hid (K2b.out.next hb)
 clear hb F2 F3 K2 K2b k2_0 k2_1 k2_2 k1_0 k1_1 k1_2 k1_3 k1_4 k1_5 k1_6 k1_7 HBg
 cases b with
 | true =>
  go_wp2_with fail
  exact HP.out _ F4.out.b
 | false =>
 have k2_0 : w3.cell? ⟨xb,0,none⟩ = some (.int .i64 kd):=F4.out.cell 2 0 rfl rfl; have k2_1 : w3.cell? ⟨xb,1,none⟩ = some (.string ⟨fr.toArray⟩):=F4.out.cell 2 1 rfl rfl; have k2_2 : w3.cell? ⟨xb,2,none⟩ = some (.int .i64 sq):=F4.out.cell 2 2 rfl rfl; have k2_3 : w3.cell? ⟨xb,3,none⟩ = some (.string ⟨dt.toArray⟩):=F4.out.cell 2 3 rfl rfl; have k2_4 : w3.cell? ⟨xb,4,none⟩ = some (.int .i64 am):=F4.out.cell 2 4 rfl rfl; have k2_5 : w3.cell? ⟨xb,5,none⟩ = some (.string ⟨ky.toArray⟩):=F4.out.cell 2 5 rfl rfl; have k2_6 : w3.cell? ⟨xb,6,none⟩ = some (.string ⟨vl.toArray⟩):=F4.out.cell 2 6 rfl rfl; have k2_7 : w3.cell? ⟨xb,7,none⟩ = some (.slice mA mm.length mc):=F4.out.cell 2 7 rfl rfl
 have HDo2:=Lib.hid (HDo.out w3 t0 _ F4.out.b K3.out (by have:=HCt.out.2; omega))
 have HTl:=fun hd=>tells_plain (t:=t0) HCt.out.1 (x:=⟨kd,fr,sq,dt,am,ky,vl,mm⟩) hd
 have C1:=Lib.hid (fun W v (hk : TrieP W t0 v)=>HA0.out W t0 v hk)
 have C3:=Lib.hid (fun W v (hk : TrieP W t0 v)=>HD1.out W t0 v hk)
 have C6:=Lib.hid (fun W v (hk : TrieP W t0 v)=>HGs.out W t0 v hk)
 generalize hrr : Ex.doW t0 ⟨kd,fr,sq,dt,am,ky,vl,mm⟩ = rr at HDo2 HTl
 clear hrr
 obtain ⟨U,cd2⟩:=rr
 try simp only at HDo2
 try simp only at HTl
 have C2:=Lib.hid (fun W v (hk : TrieP W U v)=>HA0.out W U v hk)
 have C4:=Lib.hid (fun W v (hk : TrieP W U v)=>HD1.out W U v hk)
 have C5:=Lib.hid (fun W v (hk : TrieP W U v)=>HGs.out W U v hk)
 have C7:=Lib.hid (fun W v (hk : TrieP W U v)=>HDk.out W U v hk)
 have C8:=Lib.hid (fun W v (hk : TrieP W U v)=>HAf.out W U v hk)
 clear HA0 HD1 HGs HDk HAf HDo HCt
 by_cases h2 : cd2 = 0
 rotate_left
 ·have h2' : ((cd2 : Int) != 0) = true:=by simp; exact h2
  clear HTl C1 C2 C3 C4 C5 C6 C7 C8 h2
  go_wp2_with fail
  refine HDo2.out.mono ?_
  rintro e w4 ⟨v4,rfl,hb,_,_⟩
  have F5:=Live.hb F4 hb
  clear hb F4 k2_0 k2_1 k2_2 k2_3 k2_4 k2_5 k2_6 k2_7 HDo2
  go_wp2_with fail
  exact HP.out _ F5.out.b
 subst h2
 obtain ⟨T1,T2,T3,T4,T5,T6,⟨fa,fq,T7,T8⟩,T9,T10⟩:=HTl rfl
 have HF:=Lib.hid (And.intro T3 (And.intro T4 (And.intro T5 T6)))
 have HQ:=Lib.hid (And.intro T8 (And.intro T9 T10))
 have HAQ:=Lib.hid (T1 n0)
 have HPQ:=Lib.hid (T2 n1)
 rw [T7] at C8
 clear T1 T2 T3 T4 T5 T6 T7 T8 T9 T10 HTl
 unfold AccEnd at C1 C2 C8
 unfold TGetEnd at C3 C4 C5 C6 C7
 generalize accW t0 n0 = r1 at *
 obtain ⟨⟨an,aa,aq⟩,ac⟩:=r1
 generalize accW U n0 = r2 at *
 obtain ⟨⟨bn,ba,bq⟩,bc⟩:=r2
 generalize dataW t0 n1 = r3 at *
 obtain ⟨pv,pc⟩:=r3
 generalize dataW U ky = r7 at *
 obtain ⟨kv,kc⟩:=r7
 generalize dataW U n1 = r4 at *
 obtain ⟨qv,qc⟩:=r4
 generalize Trie.getW t0 [115] = r6 at *
 obtain ⟨wv,wc⟩:=r6
 generalize Trie.getW U [115] = r5 at *
 obtain ⟨sv,sc⟩:=r5
 try simp only at C1 C2 C3 C4 C5 C6 C7 C8
 go_wp2_with fail
 refine HDo2.out.mono ?_
 rintro e w4 ⟨v4,rfl,hb,hk4,_⟩
 have F5:=Live.hb F4 hb
 have K5:=Lib.hid (And.intro (K3.out.next hb) (hk4 (by first | exact trivial | rfl)))
 obtain ⟨_,p4,x4,rfl,_⟩:=id K5.out.2
 clear hb hk4 F4 K3 k2_0 k2_1 k2_2 k2_3 k2_4 k2_5 k2_6 k2_7 HDo2
 have k1_0 : w4.cell? ⟨nb,0,none⟩ = some (.string ⟨n0.toArray⟩):=F5.out.cell 1 0 rfl rfl; have k1_1 : w4.cell? ⟨nb,1,none⟩ = some (.string ⟨n1.toArray⟩):=F5.out.cell 1 1 rfl rfl
 go_wp2_with fail
 refine (C1.out _ _ K5.out.1).mono ?_
 rintro e w5 ⟨rfl,hb⟩
 have F6:=Live.hb F5 hb
 have K6:=Lib.hid (And.intro (K5.out.1.next hb) (K5.out.2.next hb))
 clear hb F5 K5 k1_0 k1_1 C1
 go_upto_region 10 with fail
 have F7:=Live.ha F6 #[.string ⟨an.toArray⟩,.int .i64 (aa : Int),.int .i64 (aq : Int)] 40
 have K7:=Lib.hid (And.intro (K6.out.1.next ((Below.refl _ w5).alloc (Nat.le_refl _) (.cells #[.string ⟨an.toArray⟩,.int .i64 (aa : Int),.int .i64 (aq : Int)] 40))) (K6.out.2.next ((Below.refl _ w5).alloc (Nat.le_refl _) (.cells #[.string ⟨an.toArray⟩,.int .i64 (aa : Int),.int .i64 (aq : Int)] 40))))
 generalize w5.alloc (.cells #[.string ⟨an.toArray⟩,.int .i64 (aa : Int),.int .i64 (aq : Int)] 40) = w7 at F7 K7 ⊢
 generalize w5.heap.size = ab at F7 ⊢
 clear F6 K6
 have k2_0 : w7.cell? ⟨nb,0,none⟩ = some (.string ⟨n0.toArray⟩):=F7.out.cell 2 0 rfl rfl; have k2_1 : w7.cell? ⟨nb,1,none⟩ = some (.string ⟨n1.toArray⟩):=F7.out.cell 2 1 rfl rfl
 go_wp2_with fail
 refine (C2.out _ _ K7.out.2).mono ?_
 rintro e w8 ⟨rfl,hb⟩
 have F8:=Live.hb F7 hb
 have K8:=Lib.hid (And.intro (K7.out.1.next hb) (K7.out.2.next hb))
 clear hb F7 K7 k2_0 k2_1 C2
 go_upto_region 11 with fail
 have F9:=Live.ha F8 #[.string ⟨bn.toArray⟩,.int .i64 (ba : Int),.int .i64 (bq : Int)] 40
 have K9:=Lib.hid (And.intro (K8.out.1.next ((Below.refl _ w8).alloc (Nat.le_refl _) (.cells #[.string ⟨bn.toArray⟩,.int .i64 (ba : Int),.int .i64 (bq : Int)] 40))) (K8.out.2.next ((Below.refl _ w8).alloc (Nat.le_refl _) (.cells #[.string ⟨bn.toArray⟩,.int .i64 (ba : Int),.int .i64 (bq : Int)] 40))))
 generalize w8.alloc (.cells #[.string ⟨bn.toArray⟩,.int .i64 (ba : Int),.int .i64 (bq : Int)] 40) = w9 at F9 K9 ⊢
 generalize w8.heap.size = bb at F9 ⊢
 clear F8 K8
 have k3_0 : w9.cell? ⟨nb,0,none⟩ = some (.string ⟨n0.toArray⟩):=F9.out.cell 3 0 rfl rfl; have k3_1 : w9.cell? ⟨nb,1,none⟩ = some (.string ⟨n1.toArray⟩):=F9.out.cell 3 1 rfl rfl
 go_wp2_with fail
 refine (C3.out _ _ K9.out.1).mono ?_
 rintro e w10 ⟨rfl,hb⟩
 have F10:=Live.hb F9 hb
 have K10:=Lib.hid (And.intro (K9.out.1.next hb) (K9.out.2.next hb))
 clear hb F9 K9 k3_0 k3_1 C3
 have k3_0 : w10.cell? ⟨nb,0,none⟩ = some (.string ⟨n0.toArray⟩):=F10.out.cell 3 0 rfl rfl; have k3_1 : w10.cell? ⟨nb,1,none⟩ = some (.string ⟨n1.toArray⟩):=F10.out.cell 3 1 rfl rfl
 go_wp2_with fail
 refine (C4.out _ _ K10.out.2).mono ?_
 rintro e w11 ⟨rfl,hb⟩
 have F11:=Live.hb F10 hb
 have K11:=Lib.hid (And.intro (K10.out.1.next hb) (K10.out.2.next hb))
 clear hb F10 K10 k3_0 k3_1 C4
 go_wp2_with fail
 refine (C5.out _ _ K11.out.2).mono ?_
 rintro e w12 ⟨rfl,hb⟩
 have F12:=Live.hb F11 hb
 have K12:=Lib.hid (And.intro (K11.out.1.next hb) (K11.out.2.next hb))
 clear hb F11 K11 C5
 go_wp2_with fail
 refine (C6.out _ _ K12.out.1).mono ?_
 rintro e w13 ⟨rfl,hb⟩
 have F13:=Live.hb F12 hb
 have K13:=Lib.hid (K12.out.2.next hb)
 clear hb F12 K12 C6
 go_upto_region 15 with fail
 have k0_0 : w13.cell? ⟨bb,0,none⟩ = some (.string ⟨bn.toArray⟩):=F13.out.cell 0 0 rfl rfl; have k0_1 : w13.cell? ⟨bb,1,none⟩ = some (.int .i64 (ba : Int)):=F13.out.cell 0 1 rfl rfl; have k0_2 : w13.cell? ⟨bb,2,none⟩ = some (.int .i64 (bq : Int)):=F13.out.cell 0 2 rfl rfl
 have k1_0 : w13.cell? ⟨ab,0,none⟩ = some (.string ⟨an.toArray⟩):=F13.out.cell 1 0 rfl rfl; have k1_1 : w13.cell? ⟨ab,1,none⟩ = some (.int .i64 (aa : Int)):=F13.out.cell 1 1 rfl rfl; have k1_2 : w13.cell? ⟨ab,2,none⟩ = some (.int .i64 (aq : Int)):=F13.out.cell 1 2 rfl rfl
 have k3_0 : w13.cell? ⟨nb,0,none⟩ = some (.string ⟨n0.toArray⟩):=F13.out.cell 3 0 rfl rfl; have k3_1 : w13.cell? ⟨nb,1,none⟩ = some (.string ⟨n1.toArray⟩):=F13.out.cell 3 1 rfl rfl
 have k4_0 : w13.cell? ⟨xb,0,none⟩ = some (.int .i64 kd):=F13.out.cell 4 0 rfl rfl; have k4_1 : w13.cell? ⟨xb,1,none⟩ = some (.string ⟨fr.toArray⟩):=F13.out.cell 4 1 rfl rfl; have k4_2 : w13.cell? ⟨xb,2,none⟩ = some (.int .i64 sq):=F13.out.cell 4 2 rfl rfl; have k4_3 : w13.cell? ⟨xb,3,none⟩ = some (.string ⟨dt.toArray⟩):=F13.out.cell 4 3 rfl rfl; have k4_4 : w13.cell? ⟨xb,4,none⟩ = some (.int .i64 am):=F13.out.cell 4 4 rfl rfl; have k4_5 : w13.cell? ⟨xb,5,none⟩ = some (.string ⟨ky.toArray⟩):=F13.out.cell 4 5 rfl rfl; have k4_6 : w13.cell? ⟨xb,6,none⟩ = some (.string ⟨vl.toArray⟩):=F13.out.cell 4 6 rfl rfl; have k4_7 : w13.cell? ⟨xb,7,none⟩ = some (.slice mA mm.length mc):=F13.out.cell 4 7 rfl rfl
 go_cut [117] (fun s wx=>s = .bool false ∧ w13 = wx)
 case first =>
  cases e1 : (n0 == fr) with
  | true =>
   cases e3 : (n1 == ky) with
   | true =>
    go_wp2_with fail
    go_meet
    exact ⟨rfl,rfl⟩
   | false =>
    have hne : n1 ≠ ky:=by rw [beq_eq_false_iff_ne] at e3; exact e3
    have hpq:=HPQ.out hne
    injection hpq with hp1 hp2
    subst hp1
    subst hp2
    have g1 : (qv == qv) = true:=by simp
    have g2 : ((qc : Int) == qc) = true:=by simp
    clear hne
    go_wp2_with fail
    go_meet
    exact ⟨rfl,rfl⟩
  | false =>
   cases e2 : (n0 == dt) with
   | true =>
    cases e3 : (n1 == ky) with
    | true =>
     go_wp2_with fail
     go_meet
     exact ⟨rfl,rfl⟩
    | false =>
     have hne : n1 ≠ ky:=by rw [beq_eq_false_iff_ne] at e3; exact e3
     have hpq:=HPQ.out hne
     injection hpq with hp1 hp2
     subst hp1
     subst hp2
     have g1 : (qv == qv) = true:=by simp
     have g2 : ((qc : Int) == qc) = true:=by simp
     clear hne
     go_wp2_with fail
     go_meet
     exact ⟨rfl,rfl⟩
   | false =>
    have m1 : n0 ≠ fr:=by rw [beq_eq_false_iff_ne] at e1; exact e1
    have m2 : n0 ≠ dt:=by rw [beq_eq_false_iff_ne] at e2; exact e2
    have hab:=HAQ.out m1 m2
    injection hab with hab hcc
    injection hab with h1 h2
    injection h2 with h2 h3
    subst h1
    subst h2
    subst h3
    clear hcc m1 m2
    have EQ:=fun w=>ac_same w bn (ba : Int) (bq : Int)
    cases e3 : (n1 == ky) with
    | true =>
     go_wp2_with fail
     go_meet
     exact ⟨rfl,rfl⟩
    | false =>
     have hne : n1 ≠ ky:=by rw [beq_eq_false_iff_ne] at e3; exact e3
     have hpq:=HPQ.out hne
     injection hpq with hp1 hp2
     subst hp1
     subst hp2
     have g1 : (qv == qv) = true:=by simp
     have g2 : ((qc : Int) == qc) = true:=by simp
     clear hne
     go_wp2_with fail
     go_meet
     exact ⟨rfl,rfl⟩
 case rest =>
 obtain ⟨h117,hw13⟩:=hcut
 subst h117
 subst hw13
 clear k0_0 k0_1 k0_2 k1_0 k1_1 k1_2 k3_0 k3_1 HAQ HPQ
 go_wp2_with fail
 refine (C7.out _ _ K13.out).mono ?_
 rintro e w14 ⟨rfl,hb⟩
 have F14:=Live.hb F13 hb
 have K14:=Lib.hid (K13.out.next hb)
 clear hb F13 K13 C7 k4_0 k4_1 k4_2 k4_3 k4_4 k4_5 k4_6 k4_7
 have k4_0 : w14.cell? ⟨xb,0,none⟩ = some (.int .i64 kd):=F14.out.cell 4 0 rfl rfl; have k4_1 : w14.cell? ⟨xb,1,none⟩ = some (.string ⟨fr.toArray⟩):=F14.out.cell 4 1 rfl rfl; have k4_2 : w14.cell? ⟨xb,2,none⟩ = some (.int .i64 sq):=F14.out.cell 4 2 rfl rfl; have k4_3 : w14.cell? ⟨xb,3,none⟩ = some (.string ⟨dt.toArray⟩):=F14.out.cell 4 3 rfl rfl; have k4_4 : w14.cell? ⟨xb,4,none⟩ = some (.int .i64 am):=F14.out.cell 4 4 rfl rfl; have k4_5 : w14.cell? ⟨xb,5,none⟩ = some (.string ⟨ky.toArray⟩):=F14.out.cell 4 5 rfl rfl; have k4_6 : w14.cell? ⟨xb,6,none⟩ = some (.string ⟨vl.toArray⟩):=F14.out.cell 4 6 rfl rfl; have k4_7 : w14.cell? ⟨xb,7,none⟩ = some (.slice mA mm.length mc):=F14.out.cell 4 7 rfl rfl
 go_wp2_with fail
 refine (C8.out _ _ K14.out).mono ?_
 rintro e w15 ⟨rfl,hb⟩
 have F15:=Live.hb F14 hb
 clear hb F14 K14 C8 k4_0 k4_1 k4_2 k4_3 k4_4 k4_5 k4_6 k4_7
 go_upto_region 19 with fail
 have F16:=Live.ha F15 #[.string ⟨fr.toArray⟩,.int .i64 (fa : Int),.int .i64 (fq : Int)] 40
 generalize w15.alloc (.cells #[.string ⟨fr.toArray⟩,.int .i64 (fa : Int),.int .i64 (fq : Int)] 40) = w16 at F16 ⊢
 generalize w15.heap.size = hb at F16 ⊢
 clear F15
 have k0_0 : w16.cell? ⟨hb,0,none⟩ = some (.string ⟨fr.toArray⟩):=F16.out.cell 0 0 rfl rfl; have k0_1 : w16.cell? ⟨hb,1,none⟩ = some (.int .i64 (fa : Int)):=F16.out.cell 0 1 rfl rfl; have k0_2 : w16.cell? ⟨hb,2,none⟩ = some (.int .i64 (fq : Int)):=F16.out.cell 0 2 rfl rfl
 have k5_0 : w16.cell? ⟨xb,0,none⟩ = some (.int .i64 kd):=F16.out.cell 5 0 rfl rfl; have k5_1 : w16.cell? ⟨xb,1,none⟩ = some (.string ⟨fr.toArray⟩):=F16.out.cell 5 1 rfl rfl; have k5_2 : w16.cell? ⟨xb,2,none⟩ = some (.int .i64 sq):=F16.out.cell 5 2 rfl rfl; have k5_3 : w16.cell? ⟨xb,3,none⟩ = some (.string ⟨dt.toArray⟩):=F16.out.cell 5 3 rfl rfl; have k5_4 : w16.cell? ⟨xb,4,none⟩ = some (.int .i64 am):=F16.out.cell 5 4 rfl rfl; have k5_5 : w16.cell? ⟨xb,5,none⟩ = some (.string ⟨ky.toArray⟩):=F16.out.cell 5 5 rfl rfl; have k5_6 : w16.cell? ⟨xb,6,none⟩ = some (.string ⟨vl.toArray⟩):=F16.out.cell 5 6 rfl rfl; have k5_7 : w16.cell? ⟨xb,7,none⟩ = some (.slice mA mm.length mc):=F16.out.cell 5 7 rfl rfl
 have hwr : IntKind.i64.wrap (sq + 1) = sq + 1:=IntWalk.i64_in _ (by have:=HQ.out; omega)
 have hqq : ((fq : Int) == sq + 1) = true:=by rw [HQ.out.1]; simp
 by_cases q4 : kd = 4
 ·subst q4
  have e1:=HF.out.2.1 rfl
  injection e1 with e1 e1b
  have HD5:=Lib.hid (HDg.out _ F16.out.b)
  generalize Pw.digM mm = dg at e1 HD5
  subst e1
  clear e1b HF HDg
  have g1 : (sv == sv) = true:=by simp
  go_wp2_with fail
  refine HD5.out.mono ?_
  rintro e w17 ⟨rfl,hb⟩
  have F17:=Live.hb F16 hb
  clear hb F16 k5_0 k5_1 k5_2 k5_3 k5_4 k5_5 k5_6 k5_7 k0_0 k0_1 k0_2
  have k0_0 : w17.cell? ⟨hb,0,none⟩ = some (.string ⟨fr.toArray⟩):=F17.out.cell 0 0 rfl rfl; have k0_1 : w17.cell? ⟨hb,1,none⟩ = some (.int .i64 (fa : Int)):=F17.out.cell 0 1 rfl rfl; have k0_2 : w17.cell? ⟨hb,2,none⟩ = some (.int .i64 (fq : Int)):=F17.out.cell 0 2 rfl rfl
  have k5_0 : w17.cell? ⟨xb,0,none⟩ = some (.int .i64 4):=F17.out.cell 5 0 rfl rfl; have k5_1 : w17.cell? ⟨xb,1,none⟩ = some (.string ⟨fr.toArray⟩):=F17.out.cell 5 1 rfl rfl; have k5_2 : w17.cell? ⟨xb,2,none⟩ = some (.int .i64 sq):=F17.out.cell 5 2 rfl rfl; have k5_3 : w17.cell? ⟨xb,3,none⟩ = some (.string ⟨dt.toArray⟩):=F17.out.cell 5 3 rfl rfl; have k5_4 : w17.cell? ⟨xb,4,none⟩ = some (.int .i64 am):=F17.out.cell 5 4 rfl rfl; have k5_5 : w17.cell? ⟨xb,5,none⟩ = some (.string ⟨ky.toArray⟩):=F17.out.cell 5 5 rfl rfl; have k5_6 : w17.cell? ⟨xb,6,none⟩ = some (.string ⟨vl.toArray⟩):=F17.out.cell 5 6 rfl rfl; have k5_7 : w17.cell? ⟨xb,7,none⟩ = some (.slice mA mm.length mc):=F17.out.cell 5 7 rfl rfl
  go_wp2_with fail
  exact HP.out _ F17.out.b
 have e1:=HF.out.1 q4
 injection e1 with e1 e1b
 subst e1
 subst e1b
 have g1 : (sv == sv) = true:=by simp
 by_cases q2 : kd = 2
 ·subst q2
  have e2:=HF.out.2.2.1 rfl
  injection e2 with e2 e2b
  subst e2
  subst e2b
  have g2 : (kv == kv) = true:=by simp
  clear HF HDg q4
  go_wp2_with fail
  exact HP.out _ F16.out.b
 by_cases q3 : kd = 3
 ·subst q3
  have e2 : kc = 5:=HF.out.2.2.2 rfl
  subst e2
  clear HF HDg q4 q2
  go_wp2_with fail
  exact HP.out _ F16.out.b
 have j2 : (kd == 2) = false:=by simp; exact q2
 have j3 : (kd == 3) = false:=by simp; exact q3
 have j4 : (kd == 4) = false:=by simp; exact q4
 clear HF HDg q2 q3 q4
 go_wp2_with fail
 exact HP.out _ F16.out.b
end Go.Proofs.YtomnlhbioijfhaaDoor
