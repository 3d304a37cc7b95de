import Derived.Test.YtdkiloganbhfkaaGreatDoorJ24
import Derived.OneCell
import Derived.Test.YtdkiloganbhfkaaGreatDoorJ19
set_option linter.unusedSimpArgs false
set_option linter.unusedVariables false
set_option maxHeartbeats 4000000
set_option maxRecDepth 100000
namespace Go.Proofs.YtdkiloganbhfkaaGreatDoor
section
open Go.RowKit Go.Instr
attribute [local go_sem] ba_get ByteArray.mk_append_mk
def KsT (kids:Fin 16→Trie.T) (i:Nat):List (List UInt8):=List.ofFn fun j:Fin 16=>if j.val<i then Trie.sumT (kids j) else []
theorem KsT_len (kids:Fin 16→Trie.T) (i:Nat):(KsT kids i).length=16:=by simp [KsT]
theorem KsT_zero (kids:Fin 16→Trie.T):KsT kids 0=List.replicate 16 []:=by
 apply List.ext_getElem?
 intro j;simp only [KsT,List.getElem?_ofFn,List.getElem?_replicate]
 split<;>simp
theorem KsT_all (v:List UInt8) (kids:Fin 16→Trie.T):KsT kids 16=Trie.sumsT (.branch v kids):=by
 unfold KsT Trie.sumsT Trie.kidsT
 congr 1
 funext j
 rw [if_pos j.isLt]
theorem KsT_succ (kids:Fin 16→Trie.T) (i:Fin 16):KsT kids (i.val+1)=(KsT kids i.val).set i.val (Trie.sumT (kids i)):=by
 apply List.ext_getElem?
 intro j;rw [List.getElem?_set];simp only [KsT,List.getElem?_ofFn,List.length_ofFn];by_cases hj:j<16
 ·by_cases e:i.val=j
  ·subst e;simp
  ·simp only [hj,dite_true,e,if_false];by_cases h2:j<i.val
   ·rw [if_pos h2,if_pos (by omega)]
   ·rw [if_neg h2,if_neg (by omega)]
 ·simp [hj]
  intro e; omega
theorem KsT_nil (kids:Fin 16→Trie.T) (i:Fin 16) (h:kids i= .nil):KsT kids (i.val+1)=KsT kids i.val:=by
 unfold KsT
 congr 1
 funext j
 by_cases e:j=i
 ·subst e;rw [h];simp [Trie.sumT]
 ·have:j.val≠i.val:=fun h=>e (Fin.ext h)
  by_cases h2:j.val<i.val
  ·rw [if_pos h2,if_pos (by omega)]
  ·rw [if_neg h2,if_neg (by omega)]
theorem nodeV_set (k:Nat) (p v:List UInt8) (K:List (List UInt8)) (i:Nat) (s:List UInt8):(nodeV k p v K).toArray.setIfInBounds (3+i) (.string ⟨s.toArray⟩)=(nodeV k p v (K.set i s)).toArray:=by
 rw [List.setIfInBounds_toArray]
 congr 1
 simp only [nodeV,strv];rw [show 3+i=i+1+1+1 by omega,List.set_cons_succ,List.set_cons_succ,List.set_cons_succ,List.map_set]
def flatK (kids:Fin 16→Trie.T):List Trie.KV:=(List.finRange 16).flatMap fun j=>Trie.items (kids j) [Trie.hb j]
theorem flatK_head (kids:Fin 16→Trie.T):∀ x∈flatK kids,x.1≠ []:=by
 intro x hx;unfold flatK at hx;rw [List.mem_flatMap] at hx;obtain ⟨j,_,hx⟩:=hx;rw [Trie.items_pl,List.mem_map] at hx;obtain ⟨y,_,rfl⟩:=hx;simp
theorem goKids_len {v:List UInt8} {kids:Fin 16→Trie.T} (hw:Trie.wf (.branch v kids)) (hc:Trie.count (.branch v kids)≤20000) (pl:List UInt8) (i:Nat):(Trie.goKids allW kids pl i).length≤100000:=by
 have h:=Trie.goT_short hw hc allW pl;simp only [Trie.goT] at h;have e:allW pl=true:=rfl;rw [if_pos e,←Trie.goKids_all,List.length_cons] at h;have h2:(Trie.goKids allW kids pl i).length≤(Trie.goKids allW kids pl 16).length:=by
  unfold Trie.goKids;rw [show (List.finRange 16).take 16=List.finRange 16 from List.take_of_length_le (by simp)]
  conv=>rhs; rw [←List.take_append_drop i (List.finRange 16),List.flatMap_append,List.length_append]
  omega
 omega
set_option maxHeartbeats 8000000 in
theorem grown_outer (w w0:World) (v:List UInt8) (kids:Fin 16→Trie.T) (pl:List UInt8) (ha:Trie.At pl (.branch v kids)) (hc:Trie.count (.branch v kids)≤2000) (IH:∀ i,GrownAt (kids i) (pl++ [Trie.hb i]))
  (l:List Trie.KV) (hl:l=flatK kids) (hll:l.length≤2000) (A:Option Addr) (c:Nat) (HR:Reads w w.heap.size 2 A l.length (icells l)) (nb:Nat) (F:Hid (Live w w0 [(nb,177,(nodeV 3 [] v (KsT kids 0)).toArray)]))
  (Q:Exit→Act→World→Prop)
  (hQ:∀ ⦃s0 s2 s3 s4 s5 s6 s7 a0 a2 a3 a4 a5 a6 a7 a8 a9 b2 b3 b4 b5 b6 b7 b8 b9 c0 c6 c7 c8 c9 d0 d1 d2 d3 d4 d5 d6 d7 d8 d9 e0 e2 e3 e4 e5 e6 e7 e8 e9 f0 f1 f2 f4 f5 f6 f7 f8 f9 g0 g5 g6 g7 g8 g9 h0 h3 h4 h5 h6 h7 h8 h9 i1 i2 i3 i4 i5 i6 i7 i8 i9 j0 j1 j2 j3 j4 j5 j6 j7 j8 j9 k0 k2 k4 k5 k6 k7 k8 k9 l0 l1 l2 l3 l4 l5 l6 l7 l8 l9 m0 m1 m2 m3 m4 m5 m6 m7 m8 m9 n0 n5 n6 n7 n8 n9 o0 o1 o2 o3 o4 o5 o6 o7 o8 o9 p0 p1:Value⦄ (A2:Option Addr) (n2 c2:Nat) (w2:World),n2=(Trie.goKids allW kids pl 16).length→w2.ownsRow w.heap.size 179 22 (.slice A2 n2 c2) n2 (spv (Trie.goKids allW kids pl 16))→Live w w2 [(nb,177,(nodeV 3 [] v (KsT kids 16)).toArray)]→Q (.exit 0) {tmps:=#[s0,.string ⟨pl.toArray⟩,s2,s3,s4,s5,s6,s7,.pointer (some ⟨nb,0,none⟩),.slice A2 n2 c2,a0,a2,a3,a4,a5,a6,a7,a8,a9,b2,b3,b4,b5,b6,b7,b8,b9,c0,c6,c7,c8,c9,d0,d1,d2,d3,d4,d5,d6,d7,d8,d9,e0,e2,e3,e4,e5,e6,e7,e8,e9,f0,f1,f2,f4,f5,f6,f7,f8,f9,g0,g5,g6,g7,g8,g9,h0,h3,h4,h5,h6,h7,h8,h9,i1,i2,i3,i4,i5,i6,i7,i8,i9,j0,j1,j2,j3,j4,j5,j6,j7,j8,j9,k0,k2,k4,k5,k6,k7,k8,k9,l0,l1,l2,l3,l4,l5,l6,l7,l8,l9,m0,m1,m2,m3,m4,m5,m6,m7,m8,m9,n0,n5,n6,n7,n8,n9,o0,o1,o2,o3,o4,o5,o6,o7,o8,o9,p0,p1],defers:= []} w2)
  (s2 s3 s4 s5 s6 s7 a2 a3 a4 a5 a6 a7 a8 a9 b2 b3 b4 b5 b6 b7 b8 b9 c0 c6 c7 c8 c9 d0 d1 d2 d3 d4 d5 d6 d7 d8 d9 e0 e2 e3 e4 e5 e6 e7 e8 e9 f0 f1 f2 f4 f5 f6 f7 f8 f9 g0 g5 g6 g7 g8 g9 h0 h3 h4 h5 h6 h7 h8 h9 i1 i2 i3 i4 i5 i6 i7 i8 i9 j0 j1 j2 j3 j4 j5 j6 j7 j8 j9 k0 k2 k4 k5 k6 k7 k8 k9 l0 l1 l2 l3 l4 l5 l6 l7 l8 l9 m0 m1 m2 m3 m4 m5 m6 m7 m8 m9 n0 n5 n6 n7 n8 n9 o0 o1 o2 o3 o4 o5 o6 o7 o8 o9 p0 p1:Value):
  Code.wp Tryz.prog (.loop (loopAt Tryz.f156 0)) Q {tmps:=#[.slice A l.length c,.string ⟨pl.toArray⟩,s2,s3,s4,s5,s6,s7,.pointer (some ⟨nb,0,none⟩),.slice none 0 0,.int .i64 0,a2,a3,a4,a5,a6,a7,a8,a9,b2,b3,b4,b5,b6,b7,b8,b9,c0,c6,c7,c8,c9,d0,d1,d2,d3,d4,d5,d6,d7,d8,d9,e0,e2,e3,e4,e5,e6,e7,e8,e9,f0,f1,f2,f4,f5,f6,f7,f8,f9,g0,g5,g6,g7,g8,g9,h0,h3,h4,h5,h6,h7,h8,h9,i1,i2,i3,i4,i5,i6,i7,i8,i9,j0,j1,j2,j3,j4,j5,j6,j7,j8,j9,k0,k2,k4,k5,k6,k7,k8,k9,l0,l1,l2,l3,l4,l5,l6,l7,l8,l9,m0,m1,m2,m3,m4,m5,m6,m7,m8,m9,n0,n5,n6,n7,n8,n9,o0,o1,o2,o3,o4,o5,o6,o7,o8,o9,p0,p1],defers:= []} w0:=by
 have HQ:=ι hQ;have HRR:=ι HR;have HC:=ι (And.intro ha hc);have HIH:=ι IH;have HL:=ι (And.intro hl hll);have HPl:=ι (Trie.At.len ha (by simp));clear hQ HR ha hc IH hll hl;refine wp_loop_ghost_k (fun k a wr=>∀ Φ:Act→Prop,(∀ ⦃s2 s3 s4 s5 s6 s7 a2 a3 a4 a5 a6 a7 a8 a9 b2 b3 b4 b5 b6 b7 b8 b9 c0 c6 c7 c8 c9 d0 d1 d2 d3 d4 d5 d6 d7 d8 d9 e0 e2 e3 e4 e5 e6 e7 e8 e9 f0 f1 f2 f4 f5 f6 f7 f8 f9 g0 g5 g6 g7 g8 g9 h0 h3 h4 h5 h6 h7 h8 h9 i1 i2 i3 i4 i5 i6 i7 i8 i9 j0 j1 j2 j3 j4 j5 j6 j7 j8 j9 k0 k2 k4 k5 k6 k7 k8 k9 l0 l1 l2 l3 l4 l5 l6 l7 l8 l9 m0 m1 m2 m3 m4 m5 m6 m7 m8 m9 n0 n5 n6 n7 n8 n9 o0 o1 o2 o3 o4 o5 o6 o7 o8 o9 p0 p1:Value⦄ (i n c2:Nat) (O:Option Addr),(i+k=16∧n=(Trie.goKids allW kids pl i).length∧wr.ownsRow w.heap.size 179 22 (.slice O n c2) n (spv (Trie.goKids allW kids pl i))∧Live w wr [(nb,177,(nodeV 3 [] v (KsT kids i)).toArray)])→Φ {tmps:=#[.slice A l.length c,.string ⟨pl.toArray⟩,s2,s3,s4,s5,s6,s7,.pointer (some ⟨nb,0,none⟩),.slice O n c2,.int .i64 (i:Int),a2,a3,a4,a5,a6,a7,a8,a9,b2,b3,b4,b5,b6,b7,b8,b9,c0,c6,c7,c8,c9,d0,d1,d2,d3,d4,d5,d6,d7,d8,d9,e0,e2,e3,e4,e5,e6,e7,e8,e9,f0,f1,f2,f4,f5,f6,f7,f8,f9,g0,g5,g6,g7,g8,g9,h0,h3,h4,h5,h6,h7,h8,h9,i1,i2,i3,i4,i5,i6,i7,i8,i9,j0,j1,j2,j3,j4,j5,j6,j7,j8,j9,k0,k2,k4,k5,k6,k7,k8,k9,l0,l1,l2,l3,l4,l5,l6,l7,l8,l9,m0,m1,m2,m3,m4,m5,m6,m7,m8,m9,n0,n5,n6,n7,n8,n9,o0,o1,o2,o3,o4,o5,o6,o7,o8,o9,p0,p1],defers:= []})→Φ a) (16) ?_ ?_
 ·refine fun Φ hΦ=>hΦ (0) (0) (0) (none) ?_;exact ⟨by omega,rfl,World.ownsRow_nil _ _ _ _,F.out⟩
 ·intro k1 a1 wr1 hI1 J1 K1 hJ1 hK1;refine hI1 (fun a=>Code.wp _ _ _ a _) ?_;clear hI1 a1;intro s0 s1 s2 s3 s4 s5 s6 s7 s8 s9 a0 a2 a3 a4 a5 a6 a7 a8 a9 b2 b3 b4 b5 b6 b7 b8 b9 c0 c6 c7 c8 c9 d0 d1 d2 d3 d4 d5 d6 d7 d8 d9 e0 e2 e3 e4 e5 e6 e7 e8 e9 f0 f1 f2 f4 f5 f6 f7 f8 f9 g0 g5 g6 g7 g8 g9 h0 h3 h4 h5 h6 h7 h8 h9 i1 i2 i3 i4 i5 i6 i7 i8 i9 j0 j1 j2 j3 j4 j5 j6 j7 j8 j9 k0 k2 k4 k5 k6 k7 k8 k9 l0 l1 l2 l3 l4 l5 l6 l7 l8 l9 m0 m1 m2 m3 m4 m5 m6 m7 m8 m9 n0 n5 n6 n7 n8 n9 o0 o1 o2 o3 o4 o5 o6 i n c2 O hrel
  show Code.wp _ _ _ _ _;clear F
  conv=>arg 2; whnf
  obtain ⟨h1,h2,own,hF⟩:=hrel;have F:=ι hF;clear hF;by_cases hi:i<16
  ·have hi1:(i:Int)<16:=by omega
   have HI:=ι h1;have O1:=ι (And.intro h2 own);clear h1 h2 own;go_upto_region 21 with fail
   refine grown_inner wr1 l A c ((HRR.out.below F.out.b).more F.out.b.size) HL.out.2 (by rw [HL.out.1]; exact flatK_head kids) i hi pl nb (.slice O n c2) _ ?_ _ _ _ _ _ _ _ _ _ _ _ _ _ _ _ _ _ _ _ _ _ _ _ _ _ _ _ _ _ _ _ _ _ _ _ _ _ _ _ _ _ _ _ _ _ _ _ _ _ _ _ _ _ _ _ _ _ _ _ _ _ _ _ _ _ _ _ _ _ _ _ _ _ _ _ _ _ _ _ _ _ _ _ _ _ _ _ _ _ _ _ _ _ _ _ _ _ _ _ _ _ _ _ _ _ _ _ _ _ _ _ _ _ _ _ _ _ _ _ _ _ _ _ _ _ _ _ _ _ _ _ _;iterate 133 (intro _)
   intro A2 n2 c2' w2 g1 g2 g3;have F2:=Live.hb F g3;have O2:=ι (And.intro O1.out.1 (own_below O1.out.2 g3));have hsw:someW l i=Trie.items (kids ⟨i,hi⟩) [Trie.hb ⟨i,hi⟩]:=by rw [HL.out.1]; exact Trie.kid_filter kids ⟨i,hi⟩
   have hat:=HC.out.1.kid ⟨i,hi⟩;have hcn:Trie.count (kids ⟨i,hi⟩)≤2000:=Nat.le_trans (Trie.count_kid v kids ⟨i,hi⟩) HC.out.2;rw [hsw] at g1 g2;have hlen:(Trie.items (kids ⟨i,hi⟩) [Trie.hb ⟨i,hi⟩]).length=Trie.count (kids ⟨i,hi⟩):=Trie.length_items _ _;have HLs:Hid (∀ W,Below w2.heap.size w2 W→Calls Tryz.prog 181 #[.slice A2 n2 c2',.int .i64 1] W (ItemsEnd W (Trie.items (kids ⟨i,hi⟩) []))):=ι (fun W hb=>by
    subst g1
    have:=ref10_less W A2 c2' (Trie.items (kids ⟨i,hi⟩) [Trie.hb ⟨i,hi⟩]) (((Reads.of_own g2).below hb).more hb.size) (by omega) 1 (fun y hy=>by
     rw [Trie.items_pl,List.mem_map] at hy;obtain ⟨y0,hy0,rfl⟩:=hy
     have:=(Trie.items_short hat y0 hy0).1
     simp only [List.cons_append,List.nil_append,List.length_cons];omega)
    rw [show lessW (Trie.items (kids ⟨i,hi⟩) [Trie.hb ⟨i,hi⟩]) 1=Trie.items (kids ⟨i,hi⟩) [] from Trie.less_items (kids ⟨i,hi⟩) [Trie.hb ⟨i,hi⟩]] at this;exact this)
   have HG:Hid (∀ (W:World) (A1:Option Addr) (n1 c1:Nat),n1=(Trie.items (kids ⟨i,hi⟩) []).length→n1≤c1→Reads W W.heap.size 2 A1 n1 (icells (Trie.items (kids ⟨i,hi⟩) []))→Calls Tryz.prog 156 #[.slice A1 n1 c1,.string ⟨(pl++ [UInt8.ofNat i]).toArray⟩] W (SpotsEnd W (Trie.goT allW (kids ⟨i,hi⟩) (pl++ [UInt8.ofNat i])))):=ι (fun W A1 n1 c1 hn1 hcc hr=>HIH.out ⟨i,hi⟩ W A1 c1 n1 (by rw [hn1,Trie.length_items]) hcc hr);have HGT:Hid ((kids ⟨i,hi⟩= .nil→Trie.goT allW (kids ⟨i,hi⟩) (pl++ [UInt8.ofNat i])= [])∧(kids ⟨i,hi⟩≠ .nil→∀ (W:World) (base:Nat) (A1:Option Addr) (n1 c1:Nat),n1=(Trie.goT allW (kids ⟨i,hi⟩) (pl++ [UInt8.ofNat i])).length→W.ownsRow base 179 22 (.slice A1 n1 c1) n1 (spv (Trie.goT allW (kids ⟨i,hi⟩) (pl++ [UInt8.ofNat i])))→∃ g,A1=some ⟨g,0,none⟩∧g<W.heap.size∧0<n1∧W.cell? ⟨g,2,none⟩=some (.string ⟨(Trie.sumT (kids ⟨i,hi⟩)).toArray⟩))):=ι ⟨fun h=>by rw [h]; rfl,fun htn W base A1 n1 c1 hn1 hr=>by
    obtain ⟨D0,hD0⟩:=goT_head htn (pl++ [UInt8.ofNat i]);have hp:0<n1:=by rw [hn1,hD0]; simp
    obtain ⟨g,cap,hv,_,hlt⟩:=hr.form hp;have hA:A1=some ⟨g,0,none⟩:=by injection hv
    subst hA;refine ⟨g,rfl,hlt,hp,?_⟩
    have:=hr.cells (g:=g) rfl 2 (.string ⟨(Trie.sumT (kids ⟨i,hi⟩)).toArray⟩) (by rw [hD0]; rfl)
    exact this⟩
   have HSu:Hid (Trie.goKids allW kids pl (i+1)=Trie.goKids allW kids pl i++Trie.goT allW (kids ⟨i,hi⟩) (pl++ [UInt8.ofNat i])):=ι (Trie.goKids_succ allW kids pl ⟨i,hi⟩);have HLn:Hid ((Trie.goKids allW kids pl i).length≤100000∧(Trie.goT allW (kids ⟨i,hi⟩) (pl++ [UInt8.ofNat i])).length≤100000):=ι ⟨goKids_len HC.out.1.wf (by have:=HC.out.2; omega) pl i,Trie.goT_short hat.wf (by omega) _ _⟩;generalize Trie.goT allW (kids ⟨i,hi⟩) (pl++ [UInt8.ofNat i])=GT at *;generalize Trie.goKids allW kids pl i=GK at *;generalize Trie.items (kids ⟨i,hi⟩) []=I at *;clear hsw hat hcn hlen g1 g2 g3 F O1 HIH;have hplen:=HPl.out;have b0:(0:Int)≤(i:Int):=by omega
   have b1:(i:Int)<256:=by omega
   have e1:IntKind.u8.wrap (i:Int)=i:=IntWalk.u8_in _ (by omega);have FA:=Live.ha F2 #[.int .u8 (i:Int)] 5;have cd:=conv1b (FA.out.blk 0 rfl).drew b0 b1;rw [Int.toNat_natCast] at cd;have hn1:(9223372036854775807<pl.length+1)=False:=by simp; omega
   have hn2:pl.length+1≤9223372036854775807:=by omega
   go_upto_region 25 with fail
   refine wp_region_noPanic ?_;go_region_law (first|(refine step_call rfl 181 #[.slice A2 n2 c2',.int .i64 1] (by go_simp) _ (HLs.out _ (by first|exact (Below.refl _ _).drew|exact ((Below.refl _ _).alloc (Nat.le_refl _) _).drew)) ?_; rintro e w3 ⟨A3,n3,c3,rfl,hn3,own3,hb⟩; refine ⟨_,rfl,?_⟩; have OW:=ι (And.intro hn3 own3); have OC:=ι (own_cap own3); (first|(have F3:=Live.hbd FA hb; have cd1:=conv1b (F3.out.blk 0 rfl) b0 b1)|(have F3:=Live.hbd F2 hb; have F3:=Live.ha F3 #[.int .u8 (i:Int)] 5; have cd1:=conv1b (F3.out.blk 0 rfl) b0 b1)); rw [Int.toNat_natCast] at cd1; have B3:Below w2.heap.size w2 w3:=(by first|exact Below.nxt (Below.refl _ _).drew hb|exact Below.nxt ((Below.refl _ _).alloc (Nat.le_refl _) _).drew hb); clear own3 hn3 hb)|(refine step_call rfl 156 #[.slice A3 n3 c3,.string ⟨(pl++ [UInt8.ofNat i]).toArray⟩] (by go_simp) _ (HG.out _ A3 n3 c3 OW.out.1 OC.out (by first|exact Reads.of_own OW.out.2|exact Reads.of_own (OW.out.2.alloc _))) ?_; rintro e w4 ⟨A4,c4,n4,rfl,hn4,own4,hb⟩; refine ⟨_,rfl,?_⟩; have B4:Hid (Below w2.heap.size w2 w4):=ι (by first|exact Below.nxt B3 hb|exact Below.nxt (B3.alloc B3.size _) hb); have OG:=ι (And.intro hn4 (own_lower (base':=w2.heap.size) own4 (by first|exact B3.size|exact Nat.le_trans B3.size (by simp)))); clear own4 hn4 hb))
   all_goals refine NoPanic.normal ?_
   all_goals clear cd e1 hn1 hn2 b0 b1 FA HLs HG cd1 F3 OW OC HPl HRR HC
   all_goals
    have F:=Live.hb F2 B4.out;have ALL:=ι (And.intro O2.out.1 (own_below O2.out.2 B4.out));by_cases hnil:kids ⟨i,hi⟩= .nil
    ·have hn0:n4=0:=by rw [OG.out.1,HGT.out.1 hnil]; rfl
     have HK:Hid (KsT kids (i+1)=KsT kids i):=ι (KsT_nil kids ⟨i,hi⟩ hnil);subst hn0;clear hnil;go_upto_region 28 with fail
     have hcA:=own_cap OG.out.2;obtain ⟨i0,hi0,hz0,hz1,hz2⟩:=info_parts info_spot;have R4:=Reads.of_own OG.out.2;have own:=ALL.out.2;have hnA:=ALL.out.1;have hnB:=OG.out.1;have HnA:=ι (And.intro hnA hnB);have hml:n+0≤200000:=by have:=HLn.out.1; have:=HLn.out.2; omega
     clear hnA hnB;go_wp2_with (at_builtin; refine wpList_append_any w4 rfl _ _ 173 rfl w.heap.size 179 i0 _ 22 344 Tryz.underlying173 hi0 hz0 hz1 hz2 rfl (by decide) (.slice O n c2) n (spv GK) rfl own w4.heap.size A4 0 c4 (spv GT) rfl R4 (spv_one _) (by simp only [maxLen]; omega) (by omega) F.out.b.size ?_; intro v5 w6 own5 hg5 _; obtain ⟨A5,c5,rfl,_,_,_⟩:=own_form own5; have F5:=Live.hp F own (Nat.le_refl _) (by simp) hg5; have O5:=ι own5; clear own5 hg5 own R4)
     refine Handed.intro (16 - (i+1)) ?_ (hJ1 _ _ _ (fun Φ hΦ=>hΦ (i+1) (n+0) (c5) (A5) ?_))
     ·have:=HI.out; omega
     ·refine ⟨by have:=HI.out; omega,?_,?_,by rw [HK.out]; exact F5.out⟩
      ·rw [HSu.out,List.length_append,←HnA.out.1,←HnA.out.2]
      ·rw [HSu.out,show spv (GK++GT)=spv GK++spv GT by simp [spv]]; exact O5.out
    ·have HK:Hid (KsT kids (i+1)=(KsT kids i).set i (Trie.sumT (kids ⟨i,hi⟩))):=ι (KsT_succ kids ⟨i,hi⟩);obtain ⟨g4,hA4,hlt4,hp4,hs4⟩:=HGT.out.2 hnil w4 w2.heap.size A4 n4 c4 OG.out.1 OG.out.2;subst hA4;have n4p:(0:Int)<(n4:Int):=by omega
     have k3:∃ u,w4.cell? ⟨nb,3+i,none⟩=some u:=⟨_,F.out.cell 0 (3+i) rfl (by simp only [nodeV,List.getElem?_toArray]; rw [show 3+i=i+1+1+1 by omega]; simp only [List.getElem?_cons_succ]; exact strv_getD (by rw [KsT_len]; exact hi))⟩
     obtain ⟨u3,k3⟩:=k3;have f3:w4.frozen? ⟨nb,3+i,none⟩=false:=F.out.frozen 0 (3+i) rfl;generalize Trie.sumT (kids ⟨i,hi⟩)=S at *;clear hnil;go_upto_region 28 with fail
     have hgn:g4≠nb:=by have:=(OG.out.2.lt g4 rfl).1; have:=F2.out.lt 0 rfl; omega
     have OG:=ι (And.intro OG.out.1 (ownsRow_setCell_other OG.out.2 (a:=⟨nb,3+i,none⟩) (by simp [Value.ownBlock,hgn]) (.string ⟨S.toArray⟩)));have ALL:=ι (And.intro ALL.out.1 (ownsRow_setCell_other ALL.out.2 (a:=⟨nb,3+i,none⟩) (own_blk_ne ALL.out.2 (F.out.blk 0 rfl) (by decide)) (.string ⟨S.toArray⟩)));have F:=Live.hs F 0 (3+i) (.string ⟨S.toArray⟩) rfl;rw [nodeV_set] at F;clear k3 f3 hs4 hgn;generalize w4.setCell ⟨nb,3+i,none⟩ (.string ⟨S.toArray⟩)=w5 at F OG ALL ⊢
     replace F:Hid (Live w w5 [(nb,177,(nodeV 3 [] v ((KsT kids i).set i S)).toArray)]):=F
     generalize (some ⟨g4,0,none⟩:Option Addr)=A4 at *;have hcA:=own_cap OG.out.2;obtain ⟨i0,hi0,hz0,hz1,hz2⟩:=info_parts info_spot;have R4:=Reads.of_own OG.out.2;have own:=ALL.out.2;have hnA:=ALL.out.1;have hnB:=OG.out.1;have HnA:=ι (And.intro hnA hnB);have hml:n+n4≤200000:=by have:=HLn.out.1; have:=HLn.out.2; omega
     clear hnA hnB;go_wp2_with (at_builtin; refine wpList_append_any w5 rfl _ _ 173 rfl w.heap.size 179 i0 _ 22 344 Tryz.underlying173 hi0 hz0 hz1 hz2 rfl (by decide) (.slice O n c2) n (spv GK) rfl own w5.heap.size A4 n4 c4 (spv GT) rfl R4 (spv_one _) (by simp only [maxLen]; omega) (by omega) F.out.b.size ?_; intro v5 w6 own5 hg5 _; obtain ⟨A5,c5,rfl,_,_,_⟩:=own_form own5; have F5:=Live.hp F own (Nat.le_refl _) (by simp) hg5; have O5:=ι own5; clear own5 hg5 own R4)
     refine Handed.intro (16 - (i+1)) ?_ (hJ1 _ _ _ (fun Φ hΦ=>hΦ (i+1) (n+n4) (c5) (A5) ?_))
     ·have:=HI.out; omega
     ·refine ⟨by have:=HI.out; omega,?_,?_,by rw [HK.out]; exact F5.out⟩
      ·rw [HSu.out,List.length_append,←HnA.out.1,←HnA.out.2]
      ·rw [HSu.out,show spv (GK++GT)=spv GK++spv GT by simp [spv]]; exact O5.out
  ·have e16:i=16:=by omega
   subst e16;have O1:=ι (And.intro h2 own);clear own h2;go_wp2
   exact HQ.out _ _ _ _ O1.out.1 O1.out.2 F.out
theorem item_size (w:World):(sizeOf 218).run Tryz.prog w= .ok 2 w:=by
 go_simp
 try rfl
theorem item_cut1 (A:Option Addr) (x:Trie.KV) (l:List Trie.KV) (m c:Nat) (hn:l.length=m) (hc:m+1≤c) (w:World) (B:Nat) (hr:Reads w B 2 A (m+1) (icells (x::l))):
  ∃ A1 c1,(∀ w,(Instr.sliceAt 44 (.slice A (m+1) c) (some (.int .i64 1)) none none).run Tryz.prog w= .ok (.slice A1 m c1) w)∧Reads w B 2 A1 l.length (icells l)∧m≤c1:=by
 refine ⟨if c=1 then A else A.map (·.add (1*2)),c - 1,fun w=> ?_,?_,by omega⟩
 ·rw [run_sliceAt_slice _ _ _ _ _ _ Tryz.underlying44,run_slice_l _ _ _ _ _ Tryz.underlying44 _ _ (by omega) (by omega)];rw [show (sizeOf (Program.elem Tryz.prog 44)).run Tryz.prog w= .ok 2 w from item_size w];rfl
 ·have:=hr.cut (k:=1) (cap:=c) (by omega) hc
  rw [show m+1 - 1=l.length by omega,show (icells (x::l)).drop (1*2)=icells l from rfl] at this;exact this
theorem grown_branch (v:List UInt8) (kids:Fin 16→Trie.T) (pl:List UInt8) (ha:Trie.At pl (.branch v kids)) (hc:Trie.count (.branch v kids)≤2000) (IH:∀ i,GrownAt (kids i) (pl++ [Trie.hb i])):GrownAt (.branch v kids) pl:=by
 intro w A c n hn hcap HR;have HP:Hid (∀ e w',SpotsEnd w ((pl,.branch v kids)::Trie.goKids allW kids pl 16) e w'→SpotsEnd w (Trie.goT allW (.branch v kids) pl) e w'):=ι (fun e w' h=>by rw [Trie.goKids_all] at h; exact h);generalize SpotsEnd w (Trie.goT allW (.branch v kids) pl)=P at HP ⊢;have hw:=ha.wf;have h2:2≤Trie.count (.branch v kids):=Trie.items_two hw;obtain ⟨m,hm⟩:∃ m,Trie.count (.branch v kids)=m+1:=⟨Trie.count (.branch v kids) - 1,by omega⟩
 have hm1:1≤m∧m≤1999:=by omega
 obtain rfl:n=m+1:=hn.trans hm;obtain ⟨L,hL⟩:∃ L,Trie.items (.branch v kids) []=L:=⟨_,rfl⟩
 have hLl:L.length=m+1:=by rw [←hL,Trie.length_items]; exact hm
 obtain ⟨x,L0,e1⟩:∃ x L0,L=x::L0:=by
  cases L with
  |nil=>simp at hLl
  |cons a b=>exact ⟨a,b,rfl⟩
 obtain ⟨L1,z,e2⟩:∃ L1 z,L0=L1++ [z]:=by
  rcases List.eq_nil_or_concat L0 with e|⟨a,b,e⟩
  ·rw [e1,e] at hLl; simp at hLl; omega
  ·exact ⟨a,b,by rw [e]; simp⟩
 have hap:=Trie.branch_apart hw x z L1 (by rw [hL,e1,e2]);have hsx:=Trie.items_short ha x (by rw [hL,e1]; simp);have hsz:=Trie.items_short ha z (by rw [hL,e1,e2]; simp);rw [hL,←hLl] at HR;obtain ⟨ad,off,rfl,hbl,hcell0⟩:=item_cells HR (i:=0) (by omega);obtain ⟨ad',off',hA',_,hcellz⟩:=item_cells HR (i:=m) (by omega);injection hA' with hA'
 injection hA' with hA1 hA2
 subst hA1 hA2;have ez:L[m]'(by omega)=z:=by
  have:L[m]?=some z:=by
   have hl1:L1.length+1=m:=by rw [e1,e2] at hLl; simp at hLl; omega
   rw [e1,e2,←hl1,List.getElem?_cons_succ,List.getElem?_append_right (by omega),Nat.sub_self]; rfl
  rw [List.getElem?_eq_getElem (by omega)] at this;exact Option.some.inj this
 have ex:L[0]'(by omega)=x:=by simp [e1]
 simp only [ex,ez,Nat.zero_mul,Nat.add_zero] at hcell0 hcellz;have HCl:Hid (∀ w',Below w.heap.size w w'→w'.cell? ⟨ad,off,none⟩=some (x.1:Value)∧w'.cell? ⟨ad,off+m*2,none⟩=some (z.1:Value)):=ι (fun w' hb=>⟨(hcell0 w' hb).1,(hcellz w' hb).1⟩);have HCv:Hid (∀ w',Below w.heap.size w w'→w'.cell? ⟨ad,off+1,none⟩=some (x.2:Value)):=ι (fun w' hb=>(hcell0 w' hb).2);have HCm:Hid (∀ W,Calls Tryz.prog 180 #[x.1,z.1] W (Ret W (.int .i64 0))):=ι (fun W=>by
  have:=refnib_Common x.1 z.1 W (by have:=hsx.1; omega) (by have:=hsz.1; omega)
  rw [hap] at this;exact this)
 have HSp:Hid (∀ W A1 c1 n1,n1=(Trie.goKids allW kids pl 16).length→Below w.heap.size w W→Reads W W.heap.size 22 A1 n1 (spv (Trie.goKids allW kids pl 16))→Calls Tryz.prog 179 #[pl,.agg (nodeV 3 [] v (KsT kids 16)).toArray,.slice A1 n1 c1] W (fun e w'=>∃ A n c,e= .returned (.slice A n c)∧P (.returned (.slice A n c)) w')):=ι (fun W A1 c1 n1 hn1 hb hr=>by
  subst hn1;rw [KsT_all v kids];exact (ref10_spot W pl (.branch v kids) (by simp) hw ha.small _ (goKids_len hw (by omega) pl 16) A1 c1 hr).mono fun e w' ⟨A,c,n,he,h1,h2,h3⟩=>⟨A,n,c,he,HP.out _ _ ⟨A,c,n,rfl,h1,own_lower h2 hb.size,Below.nxt hb h3⟩⟩)
 have HX:Hid ((v= []∧L=flatK kids)∨(v≠ []∧L=([],v)::flatK kids)):=ι (by
  rw [←hL];by_cases hv:v= []
  ·left; refine ⟨hv,?_⟩; subst hv; rfl
  ·right; refine ⟨hv,?_⟩; simp only [Trie.items,if_neg hv]; rfl)
 obtain ⟨q0,qz⟩:=HCl.out _ (Below.refl _ _);have HH:=ι (And.intro ha (And.intro hc IH));have HRR:=ι HR;have HLl:=ι hLl;have Hcap:=ι hcap;obtain ⟨zk,zv⟩:=z;have HE:=ι e1;clear ha hc IH hn hm h2 hw hap hsx hsz hcell0 hcellz ez ex e2 e1 hL HP HR hLl hcap;obtain ⟨hm1,hm2⟩:=hm1;have i0:(0:Int)<(m:Int)+1:=by omega
 have i1:(1:Int)≤(m:Int):=by omega
 have i2:(m:Int)≤2000:=by omega
 have i3:IntKind.i64.wrap (m:Int)=m:=IntWalk.i64_in _ (by omega);have i4:IntKind.i64.wrap ((m:Int)+1 - 1)=m:=by rw [Int.add_sub_cancel]; exact i3
 have i5:(0:Int)≤(m:Int):=by omega
 have i6:(m:Int)<(m:Int)+1:=by omega
 simp only at HCm HCl qz;rcases HX.out with ⟨hv,hl⟩|⟨hv,hl⟩
 ·subst hv;subst hl;have hne:=flatK_head kids x (by rw [HE.out]; simp);obtain ⟨xk,xv⟩:=x;simp only at hne HCm HCl HCv q0;obtain ⟨a,r,hxk⟩:∃ a r,xk=a::r:=by
   cases xk with
   |nil=>exact absurd rfl hne
   |cons a r=>exact ⟨a,r,rfl⟩
  have g1:(xk.toArray=#[])=False:=by rw [hxk]; simp
  have g2:xk.isEmpty=false:=by rw [hxk]; rfl
  have g3:(xk= [])=False:=by rw [hxk]; simp
  clear hne hxk HE HX;go_enter Tryz.func156,Tryz.ntmps156
  go_upto_region 5 with fail
  go_region_held3 (fun w'=>w'.cell? ⟨ad,off,none⟩=some (xk:Value)∧w'.cell? ⟨ad,off+m*2,none⟩=some (zk:Value)) (first|go_keep|(constructor<;>assumption)) ((go_at_call 180; refine (HCm.out _).mono ?_; rintro e w1 ⟨rfl,hb⟩; have B1:Below w.heap.size w w1:=(by first|exact hb|exact hb.start); obtain ⟨z0,z1⟩:=HCl.out _ B1; clear hb))
  clear z1;have F0:=Live.ha (Live.hb (ι (Live.start w)) B1) #[ζ,ε,ε,ε,ε,ε,ε,ε,ε,ε,ε,ε,ε,ε,ε,ε,ε,ε,ε] 177;have TH:=F0.out.there 0 19 rfl (by decide);have HON:(#[.int .i64 3,ε,ε,ε,ε,ε,ε,ε,ε,ε,ε,ε,ε,ε,ε,ε,ε,ε,ε]:Array Value).all (·.oneCell')=true:=all_oneCell_toArray (cs:= [.int .i64 3,.string ⟨#[]⟩,.string ⟨#[]⟩,.string ⟨#[]⟩,.string ⟨#[]⟩,.string ⟨#[]⟩,.string ⟨#[]⟩,.string ⟨#[]⟩,.string ⟨#[]⟩,.string ⟨#[]⟩,.string ⟨#[]⟩,.string ⟨#[]⟩,.string ⟨#[]⟩,.string ⟨#[]⟩,.string ⟨#[]⟩,.string ⟨#[]⟩,.string ⟨#[]⟩,.string ⟨#[]⟩,.string ⟨#[]⟩]) (by simp [Value.oneCell']);go_upto_region 12 with (first|(refine wpList_build_eq rfl 177 _ rfl #[.int .i64 3,ε,ε,ε,ε,ε,ε,ε,ε,ε,ε,ε,ε,ε,ε,ε,ε,ε,ε] (by simp only [List.map_toArray,List.map_cons,List.map_nil]; kernel_rfl) ?_)|((with_reducible refine at_store 74 ?_); refine wpList_store_mid rfl 177 _ _ rfl w1.heap.size 0 #[.int .i64 3,ε,ε,ε,ε,ε,ε,ε,ε,ε,ε,ε,ε,ε,ε,ε,ε,ε,ε] rfl rfl TH info_node HON ?_))
  have F:=Live.hall F0 0 (#[.int .i64 3,ε,ε,ε,ε,ε,ε,ε,ε,ε,ε,ε,ε,ε,ε,ε,ε,ε,ε]:Array Value).toList rfl rfl;clear TH F0 HON;generalize World.setCells _ w1.heap.size 0 _=W4 at F ⊢
  replace F:Hid (Live w W4 [(w1.heap.size,177,(nodeV 3 [] [] (KsT kids 0)).toArray)]):=by rw [KsT_zero]; exact F
  generalize w1.heap.size=nb at F ⊢;have z0:=(HCl.out _ F.out.b).1;go_upto_region 17 with fail
  have hll:=HLl.out;rw [←HLl.out];refine grown_outer w W4 [] kids pl HH.out.1 HH.out.2.1 HH.out.2.2 _ rfl (by omega) _ c HRR.out nb F _ ?_ _ _ _ _ _ _ _ _ _ _ _ _ _ _ _ _ _ _ _ _ _ _ _ _ _ _ _ _ _ _ _ _ _ _ _ _ _ _ _ _ _ _ _ _ _ _ _ _ _ _ _ _ _ _ _ _ _ _ _ _ _ _ _ _ _ _ _ _ _ _ _ _ _ _ _ _ _ _ _ _ _ _ _ _ _ _ _ _ _ _ _ _ _ _ _ _ _ _ _ _ _ _ _ _ _ _ _ _ _ _ _ _ _ _ _ _ _ _ _ _ _ _ _ _ _ _ _ _ _ _ _ _ _ _;intro s0 s2 s3 s4 s5 s6 s7 s10 s11 s12 s13 s14 s15 s16 s17 s18 s19 s20 s21 s22 s23 s24 s25 s26 s27 s28 s29 s30 s31 s32 s33 s34 s35 s36 s37 s38 s39 s40 s41 s42 s43 s44 s45 s46 s47 s48 s49 s50 s51 s52 s53 s54 s55 s56 s57 s58 s59 s60 s61 s62 s63 s64 s65 s66 s67 s68 s69 s70 s71 s72 s73 s74 s75 s76 s77 s78 s79 s80 s81 s82 s83 s84 s85 s86 s87 s88 s89 s90 s91 s92 s93 s94 s95 s96 s97 s98 s99 s100 s101 s102 s103 s104 s105 s106 s107 s108 s109 s110 s111 s112 s113 s114 s115 s116 s117 s118 s119 s120 s121 s122 s123 s124 s125 s126 s127 s128 s129 s130 s131 s132 s133 s134 s135 s136 s137 s138 A2 n2 c2 w5 g1 g2 g3;have F:=ι g3;have OG:=ι (And.intro g1 g2);clear g1 g2 g3;have RA:=F.out.range1 nb 0 rfl;have SZ:(Tryz.prog.info? 177).map (·.size)=some (nodeV 3 [] [] (KsT kids 16)).length:=by rw [nodeV_size (KsT_len kids 16)]; exact info_node
  have HS5:=ι (HSp.out w5 A2 c2 n2 OG.out.1 F.out.b (Reads.of_own OG.out.2));clear HSp;generalize nodeV 3 [] [] (KsT kids 16)=NV at *;go_wp2_with (first|((with_reducible refine at_load 136 ?_); refine wpList_load_mid rfl 177 _ rfl nb 0 rfl _ _ RA Tryz.underlying177 rfl SZ ?_)|(go_at_call 179; refine HS5.out.mono ?_; rintro e w6 ⟨A6,n6,c6,rfl,hp⟩; have HF:=ι hp; clear hp))
  exact HF.out
 ·subst hl;injection HE.out with hx0 _
  subst hx0;clear HE HX;simp only at HCm HCl HCv q0;have hvl:0<v.length:=List.length_pos_iff.2 hv;clear hv;have HRt:Hid (∃ A1 c1,(∀ w,(Instr.sliceAt 44 (.slice (some ⟨ad,off,none⟩) (m+1) c) (some (.int .i64 1)) none none).run Tryz.prog w= .ok (.slice A1 m c1) w)∧Reads w w.heap.size 2 A1 (flatK kids).length (icells (flatK kids))):=by
   obtain ⟨A1,c1,h1,h2,_⟩:=item_cut1 (some ⟨ad,off,none⟩) ([],v) (flatK kids) m c (by have:=HLl.out; simpa using this) Hcap.out w w.heap.size (by have:=HRR.out; rw [HLl.out] at this; exact this);exact ι ⟨A1,c1,h1,h2⟩
  have HLl2:Hid ((flatK kids).length=m):=ι (by have:=HLl.out; simpa using this);obtain ⟨A1,c1,hcut,HR1⟩:=HRt.out;go_enter Tryz.func156,Tryz.ntmps156
  go_upto_region 5 with fail
  go_region_held3 (fun w'=>w'.cell? ⟨ad,off,none⟩=some (.string ⟨#[]⟩)∧w'.cell? ⟨ad,off+m*2,none⟩=some (zk:Value)) (first|go_keep|(constructor<;>assumption)) ((go_at_call 180; refine (HCm.out _).mono ?_; rintro e w1 ⟨rfl,hb⟩; have B1:Below w.heap.size w w1:=(by first|exact hb|exact hb.start); obtain ⟨z0,z1⟩:=HCl.out _ B1; clear hb))
  clear z1;have F0:=Live.ha (Live.hb (ι (Live.start w)) B1) #[ζ,ε,ε,ε,ε,ε,ε,ε,ε,ε,ε,ε,ε,ε,ε,ε,ε,ε,ε] 177;have TH:=F0.out.there 0 19 rfl (by decide);have HON:(#[.int .i64 3,ε,ε,ε,ε,ε,ε,ε,ε,ε,ε,ε,ε,ε,ε,ε,ε,ε,ε]:Array Value).all (·.oneCell')=true:=all_oneCell_toArray (cs:= [.int .i64 3,.string ⟨#[]⟩,.string ⟨#[]⟩,.string ⟨#[]⟩,.string ⟨#[]⟩,.string ⟨#[]⟩,.string ⟨#[]⟩,.string ⟨#[]⟩,.string ⟨#[]⟩,.string ⟨#[]⟩,.string ⟨#[]⟩,.string ⟨#[]⟩,.string ⟨#[]⟩,.string ⟨#[]⟩,.string ⟨#[]⟩,.string ⟨#[]⟩,.string ⟨#[]⟩,.string ⟨#[]⟩,.string ⟨#[]⟩]) (by simp [Value.oneCell']);go_upto_region 12 with (first|(refine wpList_build_eq rfl 177 _ rfl #[.int .i64 3,ε,ε,ε,ε,ε,ε,ε,ε,ε,ε,ε,ε,ε,ε,ε,ε,ε,ε] (by simp only [List.map_toArray,List.map_cons,List.map_nil]; kernel_rfl) ?_)|((with_reducible refine at_store 74 ?_); refine wpList_store_mid rfl 177 _ _ rfl w1.heap.size 0 #[.int .i64 3,ε,ε,ε,ε,ε,ε,ε,ε,ε,ε,ε,ε,ε,ε,ε,ε,ε,ε] rfl rfl TH info_node HON ?_))
  have F:=Live.hall F0 0 (#[.int .i64 3,ε,ε,ε,ε,ε,ε,ε,ε,ε,ε,ε,ε,ε,ε,ε,ε,ε,ε]:Array Value).toList rfl rfl;clear TH F0 HON;generalize World.setCells _ w1.heap.size 0 _=W4 at F ⊢
  replace F:Hid (Live w W4 [(w1.heap.size,177,(nodeV 3 [] [] (KsT kids 0)).toArray)]):=by rw [KsT_zero]; exact F
  generalize w1.heap.size=nb at F ⊢;have z0:=(HCl.out _ F.out.b).1;have z2:=HCv.out _ F.out.b;have k2:=(F.out.blk 0 rfl).d2;have f2:=F.out.frozen 0 2 rfl;go_upto_region 17 with fail
  have F:=Live.hs F 0 2 (.string ⟨v.toArray⟩) rfl;generalize W4.setCell ⟨nb,2,none⟩ (.string ⟨v.toArray⟩)=W5 at F ⊢
  replace F:Hid (Live w W5 [(nb,177,(nodeV 3 [] v (KsT kids 0)).toArray)]):=F
  rw [←HLl2.out];refine grown_outer w W5 v kids pl HH.out.1 HH.out.2.1 HH.out.2.2 _ rfl (by rw [HLl2.out]; omega) _ c1 HR1 nb F _ ?_ _ _ _ _ _ _ _ _ _ _ _ _ _ _ _ _ _ _ _ _ _ _ _ _ _ _ _ _ _ _ _ _ _ _ _ _ _ _ _ _ _ _ _ _ _ _ _ _ _ _ _ _ _ _ _ _ _ _ _ _ _ _ _ _ _ _ _ _ _ _ _ _ _ _ _ _ _ _ _ _ _ _ _ _ _ _ _ _ _ _ _ _ _ _ _ _ _ _ _ _ _ _ _ _ _ _ _ _ _ _ _ _ _ _ _ _ _ _ _ _ _ _ _ _ _ _ _ _ _ _ _ _ _ _;intro s0 s2 s3 s4 s5 s6 s7 s10 s11 s12 s13 s14 s15 s16 s17 s18 s19 s20 s21 s22 s23 s24 s25 s26 s27 s28 s29 s30 s31 s32 s33 s34 s35 s36 s37 s38 s39 s40 s41 s42 s43 s44 s45 s46 s47 s48 s49 s50 s51 s52 s53 s54 s55 s56 s57 s58 s59 s60 s61 s62 s63 s64 s65 s66 s67 s68 s69 s70 s71 s72 s73 s74 s75 s76 s77 s78 s79 s80 s81 s82 s83 s84 s85 s86 s87 s88 s89 s90 s91 s92 s93 s94 s95 s96 s97 s98 s99 s100 s101 s102 s103 s104 s105 s106 s107 s108 s109 s110 s111 s112 s113 s114 s115 s116 s117 s118 s119 s120 s121 s122 s123 s124 s125 s126 s127 s128 s129 s130 s131 s132 s133 s134 s135 s136 s137 s138 A2 n2 c2 w5 g1 g2 g3;have F:=ι g3;have OG:=ι (And.intro g1 g2);clear g1 g2 g3;have RA:=F.out.range1 nb 0 rfl;have SZ:(Tryz.prog.info? 177).map (·.size)=some (nodeV 3 [] v (KsT kids 16)).length:=by rw [nodeV_size (KsT_len kids 16)]; exact info_node
  have HS5:=ι (HSp.out w5 A2 c2 n2 OG.out.1 F.out.b (Reads.of_own OG.out.2));clear HSp;generalize nodeV 3 [] v (KsT kids 16)=NV at *;go_wp2_with (first|((with_reducible refine at_load 136 ?_); refine wpList_load_mid rfl 177 _ rfl nb 0 rfl _ _ RA Tryz.underlying177 rfl SZ ?_)|(go_at_call 179; refine HS5.out.mono ?_; rintro e w6 ⟨A6,n6,c6,rfl,hp⟩; have HF:=ι hp; clear hp))
  exact HF.out
theorem ref10_grown (t:Trie.T):∀ pl,Trie.At pl t→Trie.count t≤2000→GrownAt t pl:=by
 induction t with
 |nil=>intro pl _ _; exact grown_nil pl
 |leaf p v=>intro pl ha _; exact grown_leaf p v pl ha
 |ext p t ih=>intro pl ha hc; exact grown_ext p t pl ha hc (ih (pl++p) ha.below hc)
 |branch v kids ih=>intro pl ha hc; exact grown_branch v kids pl ha hc fun i=>ih i _ (ha.kid i) (Nat.le_trans (Trie.count_kid v kids i) hc)
def spotV (x:List UInt8 × Trie.T):List Value:= .string ⟨x.1.toArray⟩:: .string ⟨(Trie.textT x.2).toArray⟩:: .string ⟨(Trie.sumT x.2).toArray⟩::nodeV (Trie.kindT x.2) (Trie.pathT x.2) (Trie.valT x.2) (Trie.sumsT x.2)
theorem spotV_len (x:List UInt8 × Trie.T):(spotV x).length=22:=by
 have h2:=nodeV_size (k:=Trie.kindT x.2) (p:=Trie.pathT x.2) (v:=Trie.valT x.2) (Trie.sumsT_length x.2);simp [spotV,h2]
theorem spv_at:∀ (D:List (List UInt8 × Trie.T)) (i j:Nat) (x:List UInt8 × Trie.T),D[i]?=some x→j<22→(spv D)[i*22+j]?=(spotV x)[j]?
 | [],i,j,x,h,_=>by simp at h
 |y::D,0,j,x,h,hj=>by
  obtain rfl:y=x:=by simpa using h
  rw [show spv (y::D)=spotV y++spv D from rfl,List.getElem?_append_left (by rw [spotV_len]; omega)];simp
 |y::D,i+1,j,x,h,hj=>by
  rw [show spv (y::D)=spotV y++spv D from rfl,List.getElem?_append_right (by rw [spotV_len]; omega),spotV_len,show (i+1)*22+j - 22=i*22+j by omega];exact spv_at D i j x (by simpa using h) hj
theorem spot_cells {w:World} {B:Nat} {A:Option Addr} {D:List (List UInt8 × Trie.T)} (h:Reads w B 22 A D.length (spv D)) {i:Nat} (hi:i<D.length):
  ∃ ad off,A=some ⟨ad,off,none⟩∧ad<B∧∀ w',Below B w w'→w'.cell? ⟨ad,off+i*22,none⟩=some (.string ⟨D[i].1.toArray⟩)∧w'.cell? ⟨ad,off+i*22+1,none⟩=some (.string ⟨(Trie.textT D[i].2).toArray⟩)∧w'.cell? ⟨ad,off+i*22+2,none⟩=some (.string ⟨(Trie.sumT D[i].2).toArray⟩):=by
 have hsl:=spv_length D;obtain ⟨ad,off,rfl,hbl,hcell⟩:=h.form (by omega) (by omega);have hg:∀ j v,j<22→(spotV D[i])[j]?=some v→∀ w',Below B w w'→w'.cell? ⟨ad,off+(i*22+j),none⟩=some v:=by
  intro j v hj hv w' hb;have h1:=spv_at D i j D[i] (List.getElem?_eq_getElem hi) hj;rw [hv] at h1;have hlt:i*22+j<(spv D).length:=(List.getElem?_eq_some_iff.1 h1).1;have q:=hcell (i*22+j) (by omega);rw [(List.getElem?_eq_some_iff.1 h1).2] at q;exact (hb.cell (p:=⟨ad,off+(i*22+j),none⟩) hbl).trans q
 exact ⟨ad,off,rfl,hbl,fun w' hb=>⟨hg 0 _ (by omega) rfl w' hb,hg 1 _ (by omega) rfl w' hb,hg 2 _ (by omega) rfl w' hb⟩⟩
theorem items_of {t:Trie.T} (h:Trie.Good t):((Trie.itemsW t).map fun x=>(Nib.of x.1,x.2))=Trie.items t []:=by
 unfold Trie.itemsW;rw [List.map_map]
 conv=>rhs; rw [←List.map_id (Trie.items t [])]
 apply List.map_congr_left
 intro x hx;obtain ⟨q,hq,rfl,hl⟩:=(Trie.mem_items t [] x h.wf).1 hx;simp only [Function.comp_apply,List.nil_append,id];rw [Nib.of_joined q hq (h.even q hq hl).1]
def ofL (l:List Trie.KV):List Trie.KV:=l.map fun x=>(Nib.of x.1,x.2)
theorem ref10_Spots (w:World) (t:Trie.T) (h:Trie.Good t) (hc:Trie.count t≤2000) (A:Option Addr) (cp n:Nat) (hn:n=Trie.count t) (HR:Reads w w.heap.size 2 A n (icells (Trie.itemsW t))):
  Calls Tryz.prog 106 #[.slice A n cp] w (SpotsEnd w (Trie.goT allW t [])):=by
 obtain ⟨l,hl⟩:∃ l,Trie.itemsW t=l:=⟨_,rfl⟩
 have hol:ofL l=Trie.items t []:=by rw [←hl]; exact items_of h
 have hll:l.length=n:=by rw [hn,←Trie.length_items t [],←hol,ofL,List.length_map]
 have hkl:∀ x∈l,x.1.length≤2000:=by
  intro x hx
  have:(Nib.of x.1,x.2)∈ofL l:=List.mem_map.2 ⟨x,hx,rfl⟩
  rw [hol] at this
  have:=(Trie.items_short (Trie.At.top h) _ this).1
  rw [Nib.of_length] at this;omega
 have HP:Hid (∀ A c n w',n=(Trie.goT allW t []).length→w'.ownsRow w.heap.size 179 22 (.slice A n c) n (spv (Trie.goT allW t []))→Below w.heap.size w w'→SpotsEnd w (Trie.goT allW t []) (.returned (.slice A n c)) w'):=ι (fun A c n w' g1 g2 g3=>⟨A,c,n,rfl,g1,g2,g3⟩);generalize SpotsEnd w (Trie.goT allW t [])=P at HP ⊢;have HG:=ι (ref10_grown t [] (Trie.At.top h) hc);have HO:Hid (Trie.count t=n):=ι hn.symm;rw [hl] at HR;have HRR:=ι HR;have HK:=ι hkl;have HOl:=ι hol;have hn2:n≤2000:=by omega
 subst hll;have HL:=ι hn2;clear HR hkl hl hol hc hn h hn2;go_enter Tryz.func106,Tryz.ntmps106
 go_upto_region 3 with fail
 refine wp_loop_ghost_k (fun k a wr=>∀ Φ:Act→Prop,(∀ ⦃s1 s2 s5 s6 s7 s8 s9 s0 s3 s4 a0 a2 a3 a4 a5 a6 a7 a8 a9 b0 b1 b2 b3 b4 b5:Value⦄ (i n c2:Nat) (O:Option Addr),(i+k=l.length∧n=i∧wr.ownsRow w.heap.size 218 2 (.slice O n c2) n (icells (ofL (l.take i)))∧Below w.heap.size w wr)→Φ {tmps:=#[.slice A l.length cp,s1,s2,.slice O n c2,.int .i64 (i:Int),s5,s6,s7,s8,s9,s0,s3,s4,a0,a2,a3,a4,a5,a6,a7,a8,a9,b0,b1,b2,b3,b4,b5],defers:= []})→Φ a) (l.length) ?_ ?_
 ·refine fun Φ hΦ=>hΦ (0) (0) (0) (none) ?_;exact ⟨by omega,rfl,World.ownsRow_nil _ _ _ _,Below.refl _ _⟩
 ·intro k1 a1 wr1 hI1 J1 K1 hJ1 hK1;refine hI1 (fun a=>Code.wp _ _ _ a _) ?_;clear hI1 a1;iterate 25 (intro _)
  intro i n c2 O hrel
  show Code.wp _ _ _ _ _;obtain ⟨h1,rfl,own,hb⟩:=hrel;by_cases hi:n<l.length
  ·obtain ⟨ad,off,rfl,hbl,hcell⟩:=item_cells HRR.out hi;obtain ⟨q0,q1⟩:=hcell _ hb;have hcx:=HK.out _ (List.getElem_mem hi);have HS:Hid (ofL (l.take (n+1))=ofL (l.take n)++ [(Nib.of l[n].1,l[n].2)]):=ι (by
    unfold ofL; rw [List.take_succ_eq_append_getElem hi,List.map_append]; rfl)
   have hi1:(n:Int)<l.length:=by omega
   have hi0:(0:Int)≤n:=by omega
   have hn2:=HL.out;have hn3:n≤2000:=by omega
   have HI:=ι h1;have HCl:=ι hcell;clear hcell h1;generalize l[n]=x at *;obtain ⟨xk,xv⟩:=x;simp only at q0 q1 hcx HS HCl;have HOf:=ι (fun W=>refnib_Of xk W hcx);clear hcx;generalize Nib.of xk=xo at *;have HOwn:=ι own;have HB:=ι hb;go_upto_region 5 with fail
   go_region_held3 (fun w'=>w'.cell? ⟨ad,off+n*2,none⟩=some (xk:Value)∧w'.cell? ⟨ad,off+n*2+1,none⟩=some (xv:Value)) (first|go_keep|(constructor<;>assumption)) (first|(go_at_call 155; refine (HOf.out _).mono ?_; rintro e w2 ⟨rfl,hb'⟩; have hb2:Below wr1.heap.size wr1 w2:=(by first|exact hb'|exact hb'.start); have B2:Below w.heap.size w w2:=Below.nxt HB.out hb2; obtain ⟨q0,q1⟩:=HCl.out _ B2; have own2:=own_below HOwn.out hb2; clear hb' hb2)|(refine step_append_row w2 218 [xo,xv] rfl _ _ 44 rfl w.heap.size 2 32 _ info_item Tryz.underlying44 rfl (by decide) (.slice O n c2) n _ rfl own2 1 1 rfl rfl (by simp [Value.oneCell']) (by simp only [maxLen]; omega) (by omega) w.heap.size w B2 (Nat.le_refl _) B2.size ?_; intro v3 w3 hown3 hb3 hgr3 ho3 hlt3; obtain ⟨A3,cc3,rfl,_,_,_⟩:=own_form hown3; obtain ⟨q0,q1⟩:=HCl.out _ hb3; have O3:=ι (And.intro hown3 hb3); clear hown3 hb3 hgr3 ho3 hlt3))
   go_wp2
   refine Handed.intro (l.length - (n+1)) ?_ (hJ1 _ _ _ (fun Φ hΦ=>hΦ (n+1) (n+1) (cc3) (A3) ?_))
   ·have:=HI.out; omega
   ·refine ⟨by have:=HI.out; omega,rfl,?_,O3.out.2⟩;rw [HS.out,icells_snoc];exact O3.out.1
  ·have hi2:((n:Int)<l.length)=False:=by simp; omega
   have e:l.take n=l:=List.take_of_length_le (by omega);rw [e,HOl.out] at own;have hnl:n=l.length:=by omega
   have HGc:=ι (HG.out wr1 O c2 n (by rw [HO.out]; exact hnl) (own_cap own) (Reads.of_own own));have HB:=ι hb;clear own hb e hnl hi h1;go_wp2_with fail
   refine HGc.out.mono ?_;rintro e w2 ⟨A2,c3,n2,rfl,hn2,own2,hb2⟩;have OG:=ι (And.intro hn2 (And.intro (own_lower own2 HB.out.size) (Below.nxt HB.out hb2)));clear hn2 own2 hb2;go_wp2
   exact HP.out _ _ _ _ OG.out.1 OG.out.2.1 OG.out.2.2
theorem goT_nil_iff {t:Trie.T} (pl:List UInt8):Trie.goT allW t pl= []↔t= .nil:=by
 cases t<;>simp [Trie.goT,allW]
theorem goT_first {t:Trie.T} (hn:t≠ .nil) (pl:List UInt8):∃ D,Trie.goT allW t pl=(pl,t)::D:=by
 cases t with
 |nil=>exact absurd rfl hn
 |leaf p v=>exact ⟨[],by simp [Trie.goT,allW]⟩
 |ext p t=>exact ⟨_,by simp [Trie.goT,allW]; rfl⟩
 |branch v kids=>exact ⟨_,by simp [Trie.goT,allW]; rfl⟩
theorem strv_snoc (D:List (List UInt8)) (s:List UInt8):strv (D++ [s])=strv D++ [.string ⟨s.toArray⟩]:=by simp [strv]
theorem itemsW_len (t:Trie.T):(Trie.itemsW t).length=Trie.count t:=by rw [Trie.itemsW,List.length_map,Trie.length_items]
theorem ref10_Root (w:World) (t:Trie.T) (h:Trie.Good t) (hc:Trie.count t≤2000) (A:Option Addr) (cp:Nat) (HR:Reads w w.heap.size 2 A (Trie.itemsW t).length (icells (Trie.itemsW t))):
  Calls Tryz.prog 73 #[.slice A (Trie.itemsW t).length cp] w (Ret w (.string ⟨(Trie.sumT t).toArray⟩)):=by
 have HP:Hid (∀ w',Below w.heap.size w w'→Ret w (.string ⟨(Trie.sumT t).toArray⟩) (.returned (.string ⟨(Trie.sumT t).toArray⟩)) w'):=ι (fun w' g=>⟨rfl,g⟩);generalize Ret w (.string ⟨(Trie.sumT t).toArray⟩)=P at HP ⊢;have HS:=ι (ref10_Spots w t h hc A cp (Trie.itemsW t).length (itemsW_len t) HR);clear HR hc h;by_cases hn:t= .nil
 ·rw [(goT_nil_iff []).2 hn] at HS;subst hn;go_enter Tryz.func73,Tryz.ntmps73
  go_wp2_with fail
  refine HS.out.mono ?_;rintro e w1 ⟨A1,c1,n1,rfl,hn1,own1,hb1⟩;have HB:=ι hb1;obtain rfl:n1=0:=hn1;clear own1 hb1;go_wp2_with fail
  exact HP.out _ HB.out
 ·obtain ⟨D,hD⟩:=goT_first hn [];rw [hD] at HS;clear hD;go_enter Tryz.func73,Tryz.ntmps73
  go_wp2_with fail
  refine HS.out.mono ?_;rintro e w1 ⟨A1,c1,n1,rfl,hn1,own1,hb1⟩;obtain rfl:=hn1;obtain ⟨ad,off,rfl,hbl,hcell⟩:=spot_cells (Reads.of_own own1) (i:=0) (by simp);obtain ⟨q0,q1,q2⟩:=hcell _ (Below.refl _ _);simp only [List.getElem_cons_zero,Nat.zero_mul,Nat.add_zero] at q0 q1 q2;have HB:=ι hb1;have hz:((D.length+1:Nat):Int)≠0:=by omega
  have hz2:(((([],t)::D:List (List UInt8 × Trie.T)).length:Nat):Int)=(D.length:Int)+1:=by simp
  have hz3:(0:Int)<(D.length:Int)+1:=by omega
  have hz4:((D.length:Int)+1==0)=false:=by simp; omega
  clear own1 hb1 hcell q0 q1 hz;go_wp2_with fail
  exact HP.out _ HB.out
end
section
open Go.RowKit Go.Instr
attribute [local go_sem] ba_get ByteArray.mk_append_mk
attribute [local go_sem ↓] Go.wp_at_zero Go.wp_at_succ
theorem listW_snoc (l:List (List UInt8)) (n:Nat) (i:Nat) (hi:i<l.length):numW n++((l.take (i+1)).map textW).flatten=(numW n++((l.take i).map textW).flatten)++textW l[i]:=by
 rw [List.take_succ_eq_append_getElem hi,List.map_append,List.flatten_append,List.append_assoc];simp
theorem part_len {l:List (List UInt8)} {k:Nat} (hk:k≤1000000) (h:∀ s∈l,s.length≤k) (i:Nat) (hi:i≤l.length):((l.take i).map textW).flatten.length≤(k+9)*i:=by
 have:=listW_len k hk (l.take i) (fun s hs=>h s (List.mem_of_mem_take hs))
 rwa [List.length_take,Nat.min_eq_left hi] at this
theorem ref02_List (w:World) (A:Option Addr) (c:Nat) (l:List (List UInt8)) (HR:Reads w w.heap.size 1 A l.length (strv l)) (hl:l.length≤10000) (hs:∀ s∈l,s.length≤100000):
  Calls Tryz.prog 153 #[.slice A l.length c] w (Ret w (.string ⟨(listW l).toArray⟩)):=by
 have HP:Hid (∀ (s:List UInt8) w',listW l=s→Below w.heap.size w w'→Ret w (.string ⟨(listW l).toArray⟩) (.returned (s:Value)) w'):=ι (fun s w' e h=>by rw [e]; exact ⟨rfl,h⟩);generalize Ret w (.string ⟨(listW l).toArray⟩)=P at HP ⊢;have HRR:=ι HR;have HS:=ι hs;have HL:=ι hl;have HN:=ι (fun W=>ref02_Number l.length (by omega) W);have HX:Hid (listW l=numW l.length++(l.map textW).flatten):=ι rfl;have hn9:=ι (numW_len l.length (by omega));have HPl:=ι (fun i (hi:i≤l.length)=>part_len (by omega) hs i hi);have HSn:=ι (fun i hi=>listW_snoc l l.length i hi);generalize listW l=X at *;generalize numW l.length=N0 at *;clear HR hs hl;go_enter Tryz.func153,Tryz.ntmps153
 go_wp2_with fail
 refine (HN.out _).mono ?_;rintro e w1 ⟨rfl,hb⟩;have HB:=ι hb;clear hb;go_wp2_with fail
 refine wp_loop_ghost_k (fun k a wr=>∀ Φ:Act→Prop,(∀ ⦃s1 s2 s5 s6 s7 s8 s9 s0 s3 s4 a0 a2 a3 a4 a5 a6 a7 a8 a9:Value⦄ (i:Nat) (S:List UInt8),(i+k=l.length∧S=N0++((l.take i).map textW).flatten∧Below w.heap.size w wr)→Φ {tmps:=#[.slice A l.length c,s1,s2,.string ⟨S.toArray⟩,.int .i64 (i:Int),s5,s6,s7,s8,s9,s0,s3,s4,a0,a2,a3,a4,a5,a6,a7,a8,a9],defers:= []})→Φ a) (l.length) ?_ ?_
 ·refine fun Φ hΦ=>hΦ (0) (N0) ?_;exact ⟨by omega,by simp,HB.out⟩
 ·intro k1 a1 wr1 hI1 J1 K1 hJ1 hK1;refine hI1 (fun a=>Code.wp _ _ _ a _) ?_;clear hI1 a1;iterate 19 (intro _)
  intro i S hrel
  show Code.wp _ _ _ _ _;obtain ⟨h1,h2,hb⟩:=hrel;by_cases hi:i<l.length
  ·obtain ⟨ad,off,rfl,hbl,hcell⟩:=few_cell HRR.out hi;have r0:=hcell _ hb;have hi1:(i:Int)<l.length:=by omega
   have hi0:(0:Int)≤i:=by omega
   have hw:IntKind.i64.wrap ((i:Int)+1)=(i:Int)+1:=IntWalk.i64_in _ (by have:=HL.out; omega);have hle:=HS.out _ (List.getElem_mem hi);have hSl:S.length≤9+100009*10000:=by
    have:=HPl.out i (by omega)
    have:=hn9.out
    have:=HL.out
    rw [h2,List.length_append];omega
   have HT:=ι (fun W=>ref02_Text l[i] (by omega) W);have htl:=Ex.text_le hle (by omega);have HI:=ι (And.intro h1 (And.intro hb (show S++textW l[i]=N0++((l.take (i+1)).map textW).flatten by rw [h2,HSn.out i hi])));clear h1 h2 hb hcell hbl hle;generalize l[i]=x at *;generalize textW x=T at *;have m1:S.length+T.length≤9223372036854775807:=by omega
   clear htl hSl;go_wp2_with fail
   refine (HT.out _).mono ?_;rintro e w2 ⟨rfl,hb⟩;have HB2:=ι (HI.out.2.1.nxt hb);clear hb;go_wp2_with fail
   refine Handed.intro (l.length - (i+1)) ?_ (hJ1 _ _ _ (fun Φ hΦ=>hΦ (i+1) (S++T) ?_))
   ·have:=HI.out.1; omega
   exact ⟨by have:=HI.out.1; omega,HI.out.2.2,HB2.out⟩
  ·have hi1:((i:Int)<l.length)=False:=by simp; omega
   have HE:Hid (X=S):=ι (by rw [HX.out,h2,List.take_of_length_le (by omega)]);have HB2:=ι hb;clear h1 h2 hb hi;go_wp2_with fail
   exact HP.out _ _ HE.out HB2.out
def encC (l:List Ex.Tx):Nat:=if 8<l.length then 2 else if l.all Ex.fineX=false then 150 else 0
def EncAllEnd (w:World) (l:List Ex.Tx) (e:Ending) (w':World):Prop:=e= .returned (.tuple #[.string ⟨(if encC l=0 then listW (l.map Ex.writX) else []).toArray⟩,.int .i64 (encC l:Int)])∧Below w.heap.size w w'
theorem ref15_EncodeAll (w:World) (A:Option Addr) (c:Nat) (l:List TxM) (HL:TxsAt w A l):
  Calls Tryz.prog 104 #[.slice A l.length c] w (EncAllEnd w (l.map (·.1))):=by
 have HP:Hid (∀ (s:List UInt8) (cd:Nat) w',encC (l.map (·.1))=cd→(if encC (l.map (·.1))=0 then listW ((l.map (·.1)).map Ex.writX) else [])=s→Below w.heap.size w w'→EncAllEnd w (l.map (·.1)) (.returned (.tuple #[s,cd])) w'):=ι (fun s cd w' e1 e2 hb=>by subst e1 e2; exact ⟨rfl,hb⟩);generalize EncAllEnd w (l.map (·.1))=P at HP ⊢;have HX:Hid (encC (l.map (·.1))=if 8<l.length then 2 else if (l.all fun p=>Ex.fineX p.1)=false then 150 else 0):=ι (by unfold encC; rw [List.length_map,List.all_map]; rfl);generalize encC (l.map (·.1))=X at *;have HLL:=ι HL;clear HL;by_cases h8:8<l.length
 ·have h8':(8:Int)<l.length:=by omega
  have HE:Hid (X=2):=ι (by rw [HX.out,if_pos h8]);clear HX h8;go_enter Tryz.func104,Tryz.ntmps104
  go_wp2_with fail
  exact HP.out [] 2 _ HE.out (by rw [HE.out,if_neg (by decide)]) (Below.refl _ _)
 have h8':((8:Int)<l.length)=False:=by simp; omega
 have HX:=ι (HX.out.trans (if_neg h8));have HL8:=ι (Nat.le_of_not_lt h8);clear h8;go_enter Tryz.func104,Tryz.ntmps104
 go_wp2_with fail
 refine wp_loop_ghost_k (fun k a wr=>∀ Φ:Act→Prop,(∀ ⦃s1 s2 s3 s6 s7 s8 s9 s0 s4 s5 a0 a2 a3 a4 a5 a6 a7 a8 a9 b0 b1 b2 b3 b4 b5 b6 b7 b8:Value⦄ (i:Nat) (B:Option Addr) (D:List (List UInt8)) (d:Nat),(i+k=l.length∧(l.take i).all (fun p=>Ex.fineX p.1)=true∧D=(l.take i).map (fun p=>Ex.writX p.1)∧D.length=i∧wr.ownsRow w.heap.size 9 1 (.slice B D.length d) D.length (strv D)∧Below w.heap.size w wr)→Φ {tmps:=#[.slice A l.length c,s1,s2,s3,.slice B D.length d,.int .i64 (i:Int),s6,s7,s8,s9,s0,s4,s5,a0,a2,a3,a4,a5,a6,a7,a8,a9,b0,b1,b2,b3,b4,b5,b6,b7,b8],defers:= []})→Φ a) (l.length) ?_ ?_
 ·refine fun Φ hΦ=>hΦ (0) (none) ([]) (0) ?_;exact ⟨by omega,rfl,rfl,rfl,World.ownsRow_nil _ _ _ _,Below.refl _ _⟩
 ·intro k1 a1 wr1 hI1 J1 K1 hJ1 hK1;refine hI1 (fun a=>Code.wp _ _ _ a _) ?_;clear hI1 a1;iterate 28 (intro _)
  intro i B D d hrel
  show Code.wp _ _ _ _ _;obtain ⟨h1,h2,h3,h4,hD,hb⟩:=hrel;by_cases hi:i<l.length
  ·have HLi:=ι (HLL.out.next hb);obtain ⟨ad,off,rfl,hbl,hcell⟩:=tx_cells HLi.out.r hi;obtain ⟨r0,r1,r2,r3,r4,r5,r6,r7⟩:=hcell _ (Below.refl _ _);have HC:=ι hcell;have hi1:(i:Int)<l.length:=by omega
   have hi0:(0:Int)≤i:=by omega
   have hi8:i<8:=by have:=HL8.out; omega
   have hw:IntKind.i64.wrap ((i:Int)+1)=(i:Int)+1:=IntWalk.i64_in _ (by omega);have ht:=HLi.out.t _ (List.getElem_mem hi);have hm:=HLi.out.m _ (List.getElem_mem hi);have HStep:=ι (all_take hi h2);have HNo:Hid (Ex.fineX l[i].1=false→X=150):=ι (fun hx=>by
    rw [HX.out,if_pos];rw [List.all_eq_false]; exact ⟨_,List.getElem_mem hi,by rw [hx]; decide⟩)
   have HD1:Hid (D++ [Ex.writX l[i].1]=(l.take (i+1)).map (fun p=>Ex.writX p.1)):=ι (by rw [List.take_succ_eq_append_getElem hi,List.map_append,h3]; rfl);have HI:=ι (And.intro h1 (And.intro h4 (And.intro hD hb)));have hD8:D.length<8:=by omega
   clear h1 h2 h3 h4 hD hb hcell hbl;generalize l[i]=p at *;obtain ⟨⟨kd,fr,sq,dt,am,ky,vl,mm⟩,mA,mc⟩:=p;simp only at r0 r1 r2 r3 r4 r5 r6 r7 HStep HNo hm HC HD1;obtain ⟨o1,o2,o3,o4,o5⟩:=ht;simp only at o1 o2 o3 o4 o5;have HCk:=ι (ref15_Fine wr1 kd fr sq dt am ky vl mm mA mc ⟨o1,o2,o3,o4,o5⟩ hm);have HWr:=ι (fun hx W (hW:Below wr1.heap.size wr1 W)=>ref15_Written W kd fr sq dt am ky vl mm hx mA mc ((hm.below hW).more hW.size));clear o1 o2 o3 o4 o5 hm;generalize Ex.fineX ⟨kd,fr,sq,dt,am,ky,vl,mm⟩=fx at *;go_wp2_with fail
   refine HCk.out.mono ?_;rintro e w2 ⟨rfl,hb⟩;have HB2:=ι hb;clear hb HCk r0 r1 r2 r3 r4 r5 r6 r7;cases fx with
   |false=>
    have HE:=ι (HNo.out rfl);clear HStep HWr;go_wp2_with fail
    exact HP.out [] 150 _ HE.out (by rw [HE.out,if_neg (by decide)]) (HI.out.2.2.2.nxt HB2.out)
   |true=>
    have HStep2:=ι (HStep.out rfl);have HWr2:=ι (HWr.out rfl);clear HStep HWr HNo;generalize Ex.writX ⟨kd,fr,sq,dt,am,ky,vl,mm⟩=wx at *;obtain ⟨r0,r1,r2,r3,r4,r5,r6,r7⟩:=HC.out _ HB2.out;have O2:=ι (own_below HI.out.2.2.1 HB2.out);go_wp2_with fail
    refine (HWr2.out _ HB2.out).mono ?_;rintro e w3 ⟨rfl,hb⟩;have O3:=ι (own_below O2.out hb);have HB3:=ι (HI.out.2.2.2.nxt (HB2.out.nxt hb));clear hb r0 r1 r2 r3 r4 r5 r6 r7 HWr2 O2;go_wp2_with (at_builtin; refine wpList_append_new w3 9 [wx] rfl _ _ 25 rfl w.heap.size 1 16 _ info_str Tryz.underlying25 rfl (by decide) (.slice B D.length d) D.length (strv D) rfl O3.out 1 1 rfl rfl (by simp [Value.oneCell']) (by simp only [maxLen]; omega) (by omega) w.heap.size w HB3.out (Nat.le_refl _) HB3.out.size ?_; intro v4 w4 own4 hb4 hg4 _ _; obtain ⟨A4,c4,rfl,_,_,_⟩:=own_form own4; have G4:=ι (And.intro own4 hb4); clear own4 hb4 hg4)
    have HDl:Hid (D.length+1=(D++ [wx]).length):=ι (by simp);have O4:Hid (w4.ownsRow w.heap.size 9 1 (.slice A4 (D++ [wx]).length c4) (D++ [wx]).length (strv (D++ [wx]))):=ι (by have:=G4.out.1; rw [←strv_snoc] at this; rwa [HDl.out] at this);rw [HDl.out];generalize D++ [wx]=D2 at *;refine Handed.intro (l.length - (i+1)) ?_ (hJ1 _ _ _ (fun Φ hΦ=>hΦ (i+1) (A4) (D2) (c4) ?_))
    ·have:=HI.out.1; omega
    exact ⟨by have:=HI.out.1; omega,HStep2.out,HD1.out,by rw [←HDl.out,HI.out.2.1],O4.out,G4.out.2⟩
  ·have hi1:((i:Int)<l.length)=False:=by simp; omega
   have HF:Hid (X=0):=ι (by
    rw [List.take_of_length_le (by omega)] at h2;rw [HX.out,if_neg (by rw [h2]; decide)])
   have HFa:Hid (∀ p∈l,Ex.fineX p.1=true):=ι (by
    rw [List.take_of_length_le (by omega)] at h2;simpa using h2)
   have HDe:Hid (D=l.map (fun p=>Ex.writX p.1)):=ι (by rw [h3,List.take_of_length_le (by omega)]);have HLs:=ι (ref02_List wr1 B d D (Reads.of_own hD) (by have:=HL8.out; omega) (by
    intro s hs;rw [HDe.out] at hs;obtain ⟨p,hp,rfl⟩:=List.mem_map.1 hs
    have:=Ex.writX_len (HFa.out p hp)
    omega))
   have HB:=ι hb;have HE:Hid ((if X=0 then listW ((l.map (·.1)).map Ex.writX) else [])=listW D):=ι (by rw [if_pos HF.out,HDe.out,List.map_map]; rfl);clear h1 h2 h3 h4 hD hb hi HDe HFa;generalize listW D=LD at *;go_wp2_with fail
   refine HLs.out.mono ?_;rintro e w2 ⟨rfl,hb⟩;have HB2:=ι (HB.out.nxt hb);clear hb;go_wp2_with fail
   exact HP.out _ 0 _ HF.out HE.out HB2.out
def TxRootEnd (w:World) (l:List Ex.Tx) (e:Ending) (w':World):Prop:=e= .returned (.tuple #[.string ⟨(if encC l=0 then Ex.rootX l else []).toArray⟩,.int .i64 (encC l:Int)])∧Below w.heap.size w w'
theorem encC_ok {l:List Ex.Tx} (h:encC l=0):l.length≤8∧∀ x∈l,Ex.fineX x=true:=by
 unfold encC at h
 split at h
 ·cases h
 split at h
 ·cases h
 rename_i h8 hf;exact ⟨by omega,by simpa using hf⟩
theorem ref15_Root (w:World) (A:Option Addr) (c:Nat) (l:List TxM) (HL:TxsAt w A l):
  Calls Tryz.prog 71 #[.slice A l.length c] w (TxRootEnd w (l.map (·.1))):=by
 have HP:Hid (∀ (s:List UInt8) (cd:Nat) w',encC (l.map (·.1))=cd→(if encC (l.map (·.1))=0 then Ex.rootX (l.map (·.1)) else [])=s→Below w.heap.size w w'→TxRootEnd w (l.map (·.1)) (.returned (.tuple #[s,cd])) w'):=ι (fun s cd w' e1 e2 hb=>by subst e1 e2; exact ⟨rfl,hb⟩);generalize TxRootEnd w (l.map (·.1))=P at HP ⊢;have HEn:=ι (ref15_EncodeAll w A c l HL);unfold EncAllEnd at HEn;have hok:=@encC_ok (l.map (·.1));generalize hL:l.map (·.1)=L at *;generalize encC L=X at *;clear HL;by_cases h0:X=0
 ·subst h0;obtain ⟨a1,a2⟩:=hok rfl;have hl:=Ex.listX_len a2 a1;rw [if_pos rfl] at HEn;have HE:Hid ((if (0:Nat)=0 then Ex.rootX L else [])=shaW (UInt8.ofNat 3::listW (L.map Ex.writX))):=ι (by rw [if_pos rfl]; rfl);generalize listW (L.map Ex.writX)=s at *;have HDg:=ι (fun W=>ref04_Tagged W 3 (by decide) s (by omega));generalize shaW (UInt8.ofNat 3::s)=d at *;clear hok hl a1 a2;go_enter Tryz.func71,Tryz.ntmps71
  go_wp2_with fail
  refine HEn.out.mono ?_;rintro e w1 ⟨rfl,hb⟩;have HB:=ι hb;clear hb;go_wp2_with fail
  refine (HDg.out _).mono ?_;rintro e w2 ⟨rfl,hb⟩;have HB2:=ι (HB.out.nxt hb);clear hb;go_wp2_with fail
  exact HP.out _ 0 _ rfl HE.out HB2.out
 ·have h0':((X:Int) !=0)=true:=by simp; exact h0
  have HE:Hid ((if X=0 then Ex.rootX L else [])= []):=ι (if_neg h0);rw [if_neg h0] at HEn;clear hok;go_enter Tryz.func71,Tryz.ntmps71
  go_wp2_with fail
  refine HEn.out.mono ?_;rintro e w1 ⟨rfl,hb⟩;have HB:=ι hb;clear hb h0;go_wp2_with fail
  exact HP.out [] X _ rfl HE.out HB.out
end
end Go.Proofs.YtdkiloganbhfkaaGreatDoor