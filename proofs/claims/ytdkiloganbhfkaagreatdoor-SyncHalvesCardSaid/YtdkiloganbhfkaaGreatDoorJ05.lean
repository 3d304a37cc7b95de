import Derived.Test.YtdkiloganbhfkaaGreatDoorJ04
import Derived.DeepKeys
set_option linter.unusedSimpArgs false
set_option linter.unusedVariables false
namespace Go.Proofs.YtdkiloganbhfkaaGreatDoor
structure Hd where
 hgt:Int
 epo:Int
 vw:Int
 last:Bool
 par:List UInt8
 st:List UInt8
 rc:List UInt8
 tx:List UInt8
 mem:List UInt8
 nxt:List UInt8
 sk:List (List UInt8)
namespace Hd
def linksH (h:Int):List Nat:=if 1≤h∧h≤1048576 then Skip.links h.toNat else []
def sumB (s:List UInt8):Bool:=decide (s.length=32)
def maybeB (s:List UInt8):Bool:=s.isEmpty||sumB s
def inB (n:Int):Bool:=decide (0≤n) && decide (n≤1048576)
def numsB (h:Hd):Bool:=inB h.hgt && inB h.epo && inB h.vw
def firstB (h:Hd):Bool:=if 0<h.hgt then sumB h.par else h.par.isEmpty && decide (h.epo=0) && decide (h.vw=0) && h.last
def skB (h:Hd):Bool:=decide (h.sk.length=(linksH h.hgt).length) && h.sk.all sumB
def restB (h:Hd):Bool:=sumB h.tx && sumB h.mem && sumB h.nxt && maybeB h.st && maybeB h.rc
def ok (h:Hd):Bool:=numsB h && firstB h && (skB h && restB h) && (h.last||decide (h.nxt=h.mem))
def flagW (b:Bool):List UInt8:= [if b then 1 else 0]
def enc (h:Hd):List UInt8:=
 numW h.hgt.toNat++numW h.epo.toNat++numW h.vw.toNat++flagW h.last++textW h.par++textW h.st++textW h.rc++h.tx++h.mem++h.nxt++h.sk.flatten
def dig (h:Hd):List UInt8:=if ok h then shaW (2::enc h) else []
theorem sumB_iff {s:List UInt8}:sumB s=true↔s.length=32:=by simp [sumB]
structure Ok (h:Hd):Prop where
 h0:0≤h.hgt
 h1:h.hgt≤1048576
 e0:0≤h.epo
 e1:h.epo≤1048576
 v0:0≤h.vw
 v1:h.vw≤1048576
 par:(0<h.hgt→h.par.length=32)∧(h.hgt=0→h.par= []∧h.epo=0∧h.vw=0∧h.last=true)
 sk:h.sk.length=(linksH h.hgt).length
 skl:∀ s∈h.sk,s.length=32
 tx:h.tx.length=32
 mem:h.mem.length=32
 nxt:h.nxt.length=32
 st:h.st= []∨h.st.length=32
 rc:h.rc= []∨h.rc.length=32
 on:h.last=false→h.nxt=h.mem
theorem ok_iff (h:Hd):ok h=true↔Ok h:=by
 unfold ok numsB inB firstB skB restB maybeB;simp only [Bool.and_eq_true,Bool.or_eq_true,decide_eq_true_eq,sumB_iff,List.all_eq_true,List.isEmpty_iff]
 constructor
 ·rintro ⟨⟨⟨⟨⟨⟨a1,a2⟩,b1,b2⟩,c1,c2⟩,hf⟩,⟨s1,s2⟩,⟨⟨⟨t1,t2⟩,t3⟩,t4⟩,t5⟩,hl⟩;refine ⟨a1,a2,b1,b2,c1,c2,?_,s1,s2,t1,t2,t3,t4,t5,fun e=> ?_⟩
  ·by_cases h0:0<h.hgt
   ·rw [if_pos h0] at hf;exact ⟨fun _=>sumB_iff.1 hf,fun e=>by omega⟩
   ·rw [if_neg h0] at hf;simp only [Bool.and_eq_true,decide_eq_true_eq,List.isEmpty_iff] at hf;exact ⟨fun e=>absurd e h0,fun _=>⟨hf.1.1.1,hf.1.1.2,hf.1.2,hf.2⟩⟩
  ·rcases hl with hl|hl
   ·rw [hl] at e; cases e
   ·exact hl
 ·rintro ⟨a1,a2,b1,b2,c1,c2,hp,s1,s2,t1,t2,t3,t4,t5,hl⟩;refine ⟨⟨⟨⟨⟨⟨a1,a2⟩,b1,b2⟩,c1,c2⟩,?_⟩,⟨s1,s2⟩,⟨⟨⟨t1,t2⟩,t3⟩,t4⟩,t5⟩,?_⟩
  ·by_cases h0:0<h.hgt
   ·rw [if_pos h0];exact sumB_iff.2 (hp.1 h0)
   ·rw [if_neg h0];obtain ⟨q1,q2,q3,q4⟩:=hp.2 (by omega);simp [q1,q2,q3,q4]
  ·cases e:h.last with
   |true=>exact .inl rfl
   |false=>exact .inr (hl e)
theorem linksH_len (h:Int):(linksH h).length≤22:=by
 unfold linksH
 split
 ·exact Skip.linksF_len _ _ _
 ·simp
theorem flat32_len:∀ (l:List (List UInt8)),(∀ s∈l,s.length=32)→l.flatten.length=32*l.length
 | [],_=>rfl
 |x::l,h=>by
  have ih:=flat32_len l fun s hs=>h s (by simp [hs])
  have:=h x (by simp)
  simp only [List.flatten_cons,List.length_append,List.length_cons,ih];omega
theorem maybe_le {s:List UInt8} (h:s= []∨s.length=32):s.length≤32:=by
 rcases h with rfl|h
 ·simp
 ·omega
theorem Ok.par_le {h:Hd} (o:Ok h):h.par.length≤32:=by
 by_cases h0:0<h.hgt
 ·have:=o.par.1 h0; omega
 ·have:=(o.par.2 (by have:=o.h0; omega)).1; rw [this]; simp
theorem Ok.sk_le {h:Hd} (o:Ok h):h.sk.length≤22:=by rw [o.sk]; exact linksH_len _
theorem textW_len {s:List UInt8} (h:s.length≤32):(textW s).length≤41:=by
 have:=numW_len s.length (by omega)
 simp only [textW,List.length_append];omega
theorem Ok.enc_len {h:Hd} (o:Ok h):(enc h).length≤1000:=by
 have a:=numW_len h.hgt.toNat (by have:=o.h1; omega);have b:=numW_len h.epo.toNat (by have:=o.e1; omega);have c:=numW_len h.vw.toNat (by have:=o.v1; omega);have d:=textW_len o.par_le;have e:=textW_len (maybe_le o.st);have f:=textW_len (maybe_le o.rc);have g:=flat32_len h.sk o.skl;have k:=o.sk_le
 have:=o.tx
 have:=o.mem
 have:=o.nxt
 simp only [enc,flagW,List.length_append,List.length_cons,List.length_nil];omega
theorem dig_len {h:Hd} (o:ok h=true):(dig h).length=32:=by
 unfold dig;rw [if_pos o];rw [shaW_length]
def link (h:Hd) (at_:Int):List UInt8 × Nat:=
 if ok h=false then ([],190)
 else if 0<h.hgt∧at_=h.hgt - 1 then (h.par,0)
 else match (linksH h.hgt).findIdx? (fun (n:Nat)=>decide ((n:Int)=at_)) with
  |some k=>((h.sk[k]?).getD [],0)
  |none=>([],5)
end Hd
section
open Go.RowKit Go.Instr
attribute [local go_sem] ba_get ByteArray.mk_append_mk
theorem extract_drop (s:List UInt8) (c:Nat):(ByteArray.mk s.toArray).extract c (ByteArray.mk s.toArray).size=⟨(s.drop c).toArray⟩:=by
 apply ByteArray.ext
 rw [ByteArray.data_extract]
 show s.toArray.extract c s.toArray.size=_;rw [List.extract_toArray];simp [List.take_of_length_le]
theorem extract_take (s:List UInt8) (c:Nat):(ByteArray.mk s.toArray).extract 0 c=⟨(s.take c).toArray⟩:=by
 apply ByteArray.ext
 rw [ByteArray.data_extract]
 show s.toArray.extract 0 c=_;rw [List.extract_toArray];simp
theorem run_drop (s:List UInt8) (c:Nat) (h:c≤s.length) (w:World):(Instr.slice 9 (.string ⟨s.toArray⟩) (some (.int .i64 (c:Int))) none none).run Tryz.prog w= .ok (.string ⟨(s.drop c).toArray⟩) w:=by
 have:=run_slice_string_l (P:=Tryz.prog) (t:=9) (s:=⟨s.toArray⟩) (w:=w) Tryz.underlying9 .i64 (c:Int) (by omega) (by show (c:Int)≤(s.toArray.size:Nat); simp; omega)
 rwa [show ((c:Int)).toNat=c by omega,extract_drop] at this
theorem run_take (s:List UInt8) (c:Nat) (h:c≤s.length) (w:World):(Instr.slice 9 (.string ⟨s.toArray⟩) none (some (.int .i64 (c:Int))) none).run Tryz.prog w= .ok (.string ⟨(s.take c).toArray⟩) w:=by
 have:=run_slice_string_h (P:=Tryz.prog) (t:=9) (s:=⟨s.toArray⟩) (w:=w) Tryz.underlying9 .i64 (c:Int) (by omega) (by show (c:Int)≤(s.toArray.size:Nat); simp; omega)
 rwa [show ((c:Int)).toNat=c by omega,extract_take] at this
theorem valBE_take (b:List UInt8) (i:Nat) (hi:i<b.length):valBE (b.take (i+1))=valBE (b.take i)*256+(b.getD i 0).toNat:=by
 rw [List.take_succ_eq_append_getElem hi,valBE_snoc,List.getD_eq_getElem?_getD,List.getElem?_eq_getElem hi];rfl
theorem valBE_mono (b:List UInt8):∀ i,valBE (b.take i)≤valBE b:=by
 induction b using snoc_ind with
 |h0=>intro i; simp
 |h1 c x ih=>
  intro i;rw [valBE_snoc];by_cases h:i≤c.length
  ·rw [List.take_append_of_le_length h]
   have:=ih i
   omega
  ·rw [List.take_of_length_le (by simp; omega),valBE_snoc];omega
theorem run_byte (l : List UInt8) (i : Nat) (hi : i < l.length) (W : World) : (Instr.index 9 (.string ⟨l.toArray⟩) (.int .i64 (i : Int))).run Tryz.prog W = .ok (.int .u8 ((l.getD i 0).toNat : Int)) W := by
  have hsz : ((i : Int)).toNat < (ByteArray.mk l.toArray).size := by simpa [ByteArray.size] using hi
  rw [run_index_string W 9 ⟨l.toArray⟩ .i64 (i : Int) Tryz.underlying9]
  have e : (ByteArray.mk l.toArray)[((i : Int)).toNat]'hsz = l.getD i 0 := by
    rw [ba_get]
    simp [List.getD_eq_getElem?_getD, hi]
  rw [dif_pos ⟨by omega, by have e2 : (ByteArray.mk l.toArray).size = l.length := by simp [ByteArray.size]
                            omega⟩, e]
def numS (s:List UInt8 × Nat):Nat × (List UInt8 × Nat):=if s.2≠0 then (0,s) else if (numT s.1).2.2=0 then ((numT s.1).1,((numT s.1).2.1,0)) else (0,(s.1,(numT s.1).2.2))
def endS (s:List UInt8 × Nat):Nat:=if s.2=0∧s.1≠ [] then 3 else s.2
def pathOk (p:List UInt8) (least:Nat):Bool:=Nib.fit p && decide (least≤p.length∧p.length≤16)
def strv (l:List (List UInt8)):List Value:=l.map fun s=> .string ⟨s.toArray⟩
theorem strv_length (l:List (List UInt8)):(strv l).length=l.length:=by simp [strv]
theorem strv_at {l:List (List UInt8)} {i:Nat} (h:i<l.length):(strv l)[i]?=some (.string ⟨l[i].toArray⟩):=by
 simp [strv,h]
def sumsOk (l:List (List UInt8)):Bool:=l.all fun s=>decide (s.length=32)
def kidsW (K:List (List UInt8)):List (List UInt8):=K.filter fun s=> !s.isEmpty
theorem kidsW_snoc (K:List (List UInt8)) (i:Nat) (h:i<K.length):kidsW (K.take (i+1))=kidsW (K.take i)++(if K[i].isEmpty then [] else [K[i]]):=by
 rw [List.take_succ_eq_append_getElem h];unfold kidsW;rw [List.filter_append];cases h2:K[i].isEmpty<;>simp [h2]
theorem info_str:(Tryz.prog.info? 9).map (fun i=>(i.zero,i.size,i.bytes))=some (some (.string ⟨#[]⟩),1,16):=by kernel_rfl
theorem strv_one (l:List (List UInt8)):∀ u∈strv l,u.oneCell'=true:=by
 intro u hu;simp only [strv,List.mem_map] at hu;obtain ⟨x,_,rfl⟩:=hu;rfl
def KidsEnd (w:World) (K:List (List UInt8)) (e:Ending) (w':World):Prop:=
 ∃ A c n,e= .returned (.slice A n c)∧n=(kidsW K).length∧w'.ownsRow w.heap.size 9 1 (.slice A n c) n (strv (kidsW K))∧Below w.heap.size w w'
def fineN (k:Nat) (p v:List UInt8) (K:List (List UInt8)):Bool:=
 if k=1 then decide (K=List.replicate 16 []) && pathOk p 0 && !v.isEmpty && decide (v.length≤32)
 else if k=2 then decide (K=K.getD 0 []::List.replicate 15 []) && sumsOk [K.getD 0 []] && pathOk p 1 && v.isEmpty
 else if k=3 then p.isEmpty && sumsOk (kidsW K) && decide (2≤(kidsW K).length+(if v.isEmpty then 0 else 1)) && decide (v.length≤32)
 else false
def nodeV (k:Nat) (p v:List UInt8) (K:List (List UInt8)):List Value:= .int .i64 (k:Int):: .string ⟨p.toArray⟩:: .string ⟨v.toArray⟩::strv K
theorem info_node:(Tryz.prog.info? 177).map (·.size)=some 19:=by kernel_rfl
theorem nodeV_size {k:Nat} {p v:List UInt8} {K:List (List UInt8)} (hK:K.length=16):(nodeV k p v K).length=19:=by simp [nodeV,strv_length,hK]
structure NodeAt (w:World) (B:Nat) (k:Nat) (p v:List UInt8) (K:List (List UInt8)):Prop where
 c0:w.cell? ⟨B,0,none⟩=some (.int .i64 (k:Int))
 c1:w.cell? ⟨B,1,none⟩=some (p:Value)
 c2:w.cell? ⟨B,2,none⟩=some (v:Value)
 rng:w.rangeAt B 3 (strv K)
 all:w.rangeAt B 0 (nodeV k p v K)
theorem NodeAt.of {w:World} {B k:Nat} {p v:List UInt8} {K:List (List UInt8)} {C:List Value} {t:TypeId} (h:Blk w B t (nodeV k p v K++C).toArray):NodeAt w B k p v K:=by
 have hc:=fun i=>h.cell i;have hr:w.rangeAt B 0 (nodeV k p v K):=fun j u hu=>by
  rw [hc,Nat.zero_add];simp only [List.getElem?_toArray];rw [List.getElem?_append_left (by
   rcases Nat.lt_or_ge j (nodeV k p v K).length with hl|hl
   ·exact hl
   ·rw [List.getElem?_eq_none hl] at hu; cases hu)]
  exact hu
 exact ⟨hr 0 _ rfl,hr 1 _ rfl,hr 2 _ rfl,fun j u hu=>by
  have:=hr (j+3) u (by simpa [nodeV] using hu)
  rwa [show 0+(j+3)=3+j by omega] at this,hr⟩
def bitsTo (K:List (List UInt8)):Nat→Nat
 |0=>0
 |i+1=>bitsTo K i+(if (K.getD i []).isEmpty then 0 else 2 ^ (15 - i))
end
end Go.Proofs.YtdkiloganbhfkaaGreatDoor