import Derived.Test.YtnelhjfjkkdoaaaGreatDoorK27
set_option linter.unusedSimpArgs false
set_option linter.unusedVariables false
set_option maxHeartbeats 4000000
set_option maxRecDepth 100000
namespace Go.Proofs.YtnelhjfjkkdoaaaGreatDoor
section
open Go.RowKit Go.Instr Go.ChangeMaps
attribute [local go_sem] ba_get ByteArray.mk_append_mk
attribute [local go_sem ↓] Go.wp_at_zero Go.wp_at_succ
def KeysNd (D:List Trie.KV):Prop:=(D.map (·.1)).Nodup
theorem lookB_none {D:List Trie.KV} {k:List UInt8} (h:k ∉ D.map (·.1)):lookB D k=none:=by
 induction D with
 |nil=>rfl
 |cons x D ih=>
  simp only [List.map_cons,List.mem_cons,not_or] at h;rw [lookB,if_neg h.1];exact ih h.2
theorem delB_mem {D:List Trie.KV} {k:List UInt8} {x:Trie.KV} (h:x∈delB D k):x∈D:=by
 induction D with
 |nil=>cases h
 |cons y D ih=>
  rw [delB] at h
  split at h
  ·exact List.mem_cons_of_mem _ h
  ·rcases List.mem_cons.1 h with rfl|h
   ·exact List.mem_cons_self
   ·exact List.mem_cons_of_mem _ (ih h)
theorem delB_nd {D:List Trie.KV} {k:List UInt8} (h:KeysNd D):KeysNd (delB D k):=by
 induction D with
 |nil=>exact h
 |cons y D ih=>
  unfold KeysNd at h ih ⊢;rw [List.map_cons,List.nodup_cons] at h;rw [delB]
  split
  ·exact h.2
  ·rw [List.map_cons,List.nodup_cons];refine ⟨fun hm=>h.1 ?_,ih h.2⟩;obtain ⟨z,hz,e⟩:=List.mem_map.1 hm;exact List.mem_map.2 ⟨z,delB_mem hz,e⟩
theorem lookB_delB {D:List Trie.KV} (h:KeysNd D) (k s:List UInt8):lookB (delB D k) s=if s=k then none else lookB D s:=by
 induction D with
 |nil=>simp [delB,lookB]
 |cons y D ih=>
  unfold KeysNd at h ih;rw [List.map_cons,List.nodup_cons] at h;rw [delB];by_cases hk:k=y.1
  ·rw [if_pos hk,lookB];by_cases hs:s=k
   ·subst hs; rw [if_pos rfl]; exact lookB_none (by rw [hk]; exact h.1)
   ·rw [if_neg hs,if_neg (fun e=>hs (e.trans hk.symm))]
  ·rw [if_neg hk,lookB,lookB,ih h.2];by_cases hs:s=y.1
   ·rw [if_pos hs,if_pos hs,if_neg (fun e=>hk (e.symm.trans hs))]
   ·rw [if_neg hs,if_neg hs]
def keepL (I:List UInt8→Int) (D:List Trie.KV) (l:List (List UInt8)):List Trie.KV:=l.foldl (fun D s=>if I s=0 then delB D s else D) D
theorem keepL_take (I:List UInt8→Int) (D:List Trie.KV) (l:List (List UInt8)) (i:Nat) (h:i<l.length):keepL I D (l.take (i+1))=if I l[i]=0 then delB (keepL I D (l.take i)) l[i] else keepL I D (l.take i):=by
 unfold keepL;rw [List.take_succ_eq_append_getElem h,List.foldl_append];rfl
theorem keepL_spec (I:List UInt8→Int):∀ (l:List (List UInt8)) (D:List Trie.KV),KeysNd D→KeysNd (keepL I D l)∧(∀ x∈keepL I D l,x∈D)∧∀ s,lookB (keepL I D l) s=if s∈l∧I s=0 then none else lookB D s
 | [],D,h=>⟨h,fun x hx=>hx,fun s=>by simp [keepL]⟩
 |y::l,D,h=>by
  have e:keepL I D (y::l)=keepL I (if I y=0 then delB D y else D) l:=rfl;rw [e];by_cases hy:I y=0
  ·rw [if_pos hy];obtain ⟨a,b,c⟩:=keepL_spec I l (delB D y) (delB_nd h);refine ⟨a,fun x hx=>delB_mem (b x hx),fun s=> ?_⟩;rw [c s,lookB_delB h];by_cases h1:s=y
   ·subst h1;rw [if_pos (show s=s from rfl),if_pos (show s∈s::l∧I s=0 from ⟨List.mem_cons_self,hy⟩)]
    split<;>rfl
   ·rw [if_neg h1];by_cases h2:s∈l∧I s=0
    ·rw [if_pos h2,if_pos ⟨List.mem_cons_of_mem _ h2.1,h2.2⟩]
    ·rw [if_neg h2,if_neg (fun h3=>h2 ⟨(List.mem_cons.1 h3.1).resolve_left h1,h3.2⟩)]
  ·rw [if_neg hy];obtain ⟨a,b,c⟩:=keepL_spec I l D h;refine ⟨a,b,fun s=> ?_⟩;rw [c s];by_cases h2:s∈l∧I s=0
   ·rw [if_pos h2,if_pos ⟨List.mem_cons_of_mem _ h2.1,h2.2⟩]
   ·rw [if_neg h2,if_neg (fun h3=>h2 ⟨(List.mem_cons.1 h3.1).resolve_left (fun e=>hy (by rw [←e]; exact h3.2)),h3.2⟩)]
structure KeptD (D D':List Trie.KV) (I:List UInt8→Int):Prop where
 nd:KeysNd D'
 mem:∀ x∈D',x∈D
 look:∀ s,lookB D' s=if 0<I s then lookB D s else none
theorem KeptD.of {D:List Trie.KV} {roots:List (List UInt8)} {I:List UInt8→Int} (h:KeysNd D) (hI:RInv D roots I []) {ss:List (List UInt8)} (hp:ss.Perm (D.map (·.1))):KeptD D (keepL I D ss) I:=by
 obtain ⟨a,b,c⟩:=keepL_spec I ss D h;refine ⟨a,b,fun s=> ?_⟩;rw [c s];have hn:=hI.nn s;by_cases h0:0<I s
 ·rw [if_pos h0,if_neg (fun h2=>by have:=h2.2; omega)]
 ·rw [if_neg h0];by_cases h2:s∈ss∧I s=0
  ·rw [if_pos h2]
  ·rw [if_neg h2];exact lookB_none (fun hm=>h2 ⟨hp.mem_iff.2 hm,by omega⟩)
def KeepEnd (w:World) (g b:Nat) (D:List Trie.KV) (roots:List (List UInt8)) (e:Ending) (w':World):Prop:=
 ∃ (n:Int) (I:List UInt8→Int) (D':List Trie.KV),e= .returned (.int .i64 n)∧StoreP w' g b D'∧RInv D roots I []∧KeptD D D' I∧w.grownBy w' (some b)
theorem store_Keep (w:World) (g b:Nat) (D:List Trie.KV) (h:StoreP w g b D) (hs:∀ x∈D,x.2.length≤900000) (hn:KeysNd D) (hk:∀ x∈D,x.1.length≤100) (roots:List (List UInt8)) (A:Option Addr) (c:Nat) (HR:Reads w w.heap.size 1 A roots.length (strv roots)) (hl:17*D.length+roots.length≤90000):
  Calls Tryz.prog 61 #[.pointer (some ⟨g,0,none⟩),.slice A roots.length c] w (KeepEnd w g b D roots):=by
 have HP:Hid (∀ (n:Int) I D' w',StoreP w' g b D'→RInv D roots I []→KeptD D D' I→w.grownBy w' (some b)→KeepEnd w g b D roots (.returned (.int .i64 n)) w'):=ι (fun n I D' w' h1 h2 h3 h4=>⟨n,I,D',rfl,h1,h2,h3,h4⟩);generalize KeepEnd w g b D roots=P at HP ⊢;have HRe:=ι (store_reached w g b D h hs roots A c HR hl);have HSm:=ι (fun W (hW:Below w.heap.size w W)=>store_Sums W g b D (h.next hW) hk (by omega));unfold ReachEnd at HRe;unfold SumsEnd at HSm;have HSt:=ι h;have HNd:=ι hn;have HDl:=ι hl;clear h hs hn hk HR hl;go_enter Tryz.func61,Tryz.ntmps61
 go_wp2_with fail
 refine HRe.out.mono ?_;rintro e w1 ⟨mb,I,rfl,hm1,hI,hb1,hmb⟩;have H1:=ι (And.intro hm1 (And.intro hI (And.intro hb1 hmb)));clear hm1 hI hb1 hmb HRe;go_wp2_with fail
 refine (HSm.out _ H1.out.2.2.1).mono ?_;rintro e w2 ⟨v,ss,rfl,hp,own2,hb2⟩;obtain ⟨A2,c2,rfl,_,_,_⟩:=own_form own2;have R2:=ι (Reads.of_own own2);have HM2:=ι (H1.out.1.next hb2);have HB2:=ι (H1.out.2.2.1.nxt hb2);have S2:=ι (HSt.out.next HB2.out);have HPm:=ι hp;have HLn:Hid (ss.length≤90000):=ι (by have:=hp.length_eq; rw [List.length_map] at this; have:=HDl.out; omega);have HNe:Hid (b≠mb):=ι (fun e=>by have h1:=HSt.out.map.lt; have h2:=H1.out.2.2.2; omega);clear own2 hb2 hp HSm;go_wp2_with fail
 refine wp_loop_ghost_k (fun k a wr=>∀ Φ:Act→Prop,(∀ ⦃s1 s2 s3 s4 s7 s8 s9 s0 s5 s6 a0 a2 a3 a4 a5 a6 a7 a8 a9 b0 b1 b2 b3 b4 b5 b6:Value⦄ (i q:Nat),(i+k=ss.length∧q≤i∧StoreP wr g b (keepL I D (ss.take i))∧w2.grownBy wr (some b))→Φ {tmps:=#[.pointer (some ⟨g,0,none⟩),s1,s2,s3,s4,.map (some mb),.int .i64 (q:Int),s7,s8,s9,s0,s5,s6,.slice A2 ss.length c2,.int .i64 ss.length,.int .i64 (i:Int),a0,a2,a3,a4,a5,a6,a7,a8,a9,b0,b1,b2,b3,b4,b5,b6],defers:= []})→Φ a) (ss.length) ?_ ?_
 ·refine fun Φ hΦ=>hΦ (0) (0) ?_;exact ⟨by omega,Nat.le_refl _,by simpa [keepL] using S2.out,⟨rfl,rfl,rfl,Nat.le_refl _,fun _ _ _=>rfl⟩⟩
 ·intro k1 a1 wr1 hI1 J1 K1 hJ1 hK1;refine hI1 (fun a=>Code.wp _ _ _ a _) ?_;clear hI1 a1;iterate 26 (intro _)
  intro i q hrel
  show Code.wp _ _ _ _ _;obtain ⟨h1,h2,hst,hg⟩:=hrel;by_cases hi:i<ss.length
  ·have R3:Reads wr1 wr1.heap.size 1 A2 ss.length (strv ss):=(R2.out.off (Nat.le_refl _) S2.out.map hg).more hg.size;obtain ⟨ad,off,rfl,hbl,hcell⟩:=few_cell R3 hi;have q0:=hcell _ (Below.refl _ _);have hi1:(i:Int)<ss.length:=by omega
   have hi0:(0:Int)≤i:=by omega
   have hl:=HLn.out;have htk:=keepL_take I D ss i hi;have hmw:=HM2.out.offR hg (fun e=>HNe.out (Option.some.inj e));have lk:=hmw.get Tryz.underlying60 ss[i] (Below.refl _ _);have c0:wr1.cell? ⟨g,0,none⟩=some (.map (some b)):=hst.blk.cell 0;have HI:=ι (And.intro h1 (And.intro h2 (And.intro hst (And.intro hg htk))));clear h1 hst hg hcell R3 htk hbl hmw;generalize keepL I D (ss.take i)=Di at *;generalize ss[i]=x at *;by_cases hx:I x=0
   ·rw [hx] at lk;obtain ⟨vs,hm,he⟩:=HI.out.2.2.1.map.delete x;have HV:=ι (And.intro hm (And.intro he hx));clear hm he hx;go_wp2_with (at_delete; refine wpList_delete_is _ rfl _ _ 176 9 rfl ss_type _ Tryz.underlying176 b vs HV.out.1 x rfl rfl ?_; intro w3 hm3 hg3 hs3; have H3:=ι (And.intro hm3 (And.intro hg3 hs3)); clear hm3 hg3 hs3)
    refine Handed.intro (ss.length - (i+1)) ?_ (hJ1 _ _ _ (fun Φ hΦ=>hΦ (i+1) (q+1) ?_))
    ·have:=HI.out.1; omega
    refine ⟨by have:=HI.out.1; omega,by have:=HI.out.2.1; omega,?_,HI.out.2.2.2.1.trans H3.out.2.1⟩;rw [HI.out.2.2.2.2,if_pos HV.out.2.2];exact ⟨HI.out.2.2.1.blk.grown H3.out.2.1 (fun e=>HI.out.2.2.1.ne (Option.some.inj e)),HV.out.2.1 _ H3.out.1 H3.out.2.1 H3.out.2.2⟩
   ·have hx1:(I x==0)=false:=by simp; exact hx
    have HNx:=ι hx;clear hx;go_wp2_with fail
    refine Handed.intro (ss.length - (i+1)) ?_ (hJ1 _ _ _ (fun Φ hΦ=>hΦ (i+1) (q) ?_))
    ·have:=HI.out.1; omega
    refine ⟨by have:=HI.out.1; omega,by have:=HI.out.2.1; omega,?_,HI.out.2.2.2.1⟩;rw [HI.out.2.2.2.2,if_neg HNx.out];exact HI.out.2.2.1
  ·have hi1:((i:Int)<ss.length)=False:=by simp; omega
   rw [List.take_of_length_le (by omega)] at hst;have HE:=ι (And.intro hst hg);clear h1 h2 hst hg hi;go_wp2_with fail
   exact HP.out _ I _ _ HE.out.1 H1.out.2.1 (KeptD.of HNd.out H1.out.2.1 HPm.out) ((grown_of_low _ HB2.out).trans HE.out.2)
end
end Go.Proofs.YtnelhjfjkkdoaaaGreatDoor