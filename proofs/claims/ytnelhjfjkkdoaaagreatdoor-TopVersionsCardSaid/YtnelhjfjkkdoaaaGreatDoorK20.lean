import Derived.Test.YtnelhjfjkkdoaaaGreatDoorK19
set_option linter.unusedSimpArgs false
set_option linter.unusedVariables false
set_option maxHeartbeats 4000000
set_option maxRecDepth 100000
namespace Go.Proofs.YtnelhjfjkkdoaaaGreatDoor
namespace Trie
abbrev KV:=List UInt8 × List UInt8
end Trie
section
open Go.RowKit Go.Instr Go.ChangeMaps
attribute [local go_sem] ba_get ByteArray.mk_append_mk
theorem bytes_of (w:World) (s:List UInt8):∃ c w',(convert 9 118 (.string ⟨s.toArray⟩)).run Tryz.prog w= .ok (.slice (some ⟨w.heap.size,0,none⟩) s.length c) w'∧BR w' (some ⟨w.heap.size,0,none⟩) s.length s∧Below w.heap.size w w':=by
 have h:=run_bytes_of_string w 9 118 5 ⟨s.toArray⟩ Tryz.underlying9 Tryz.underlying118 Tryz.underlying5;have hs:(ByteArray.mk s.toArray).size=s.length:=by simp [ByteArray.size]
 rw [hs] at h;refine ⟨_,_,h,⟨⟨by rw [bvals_length]; omega,fun hn=>⟨_,rfl,by simp,fun j u hu=> ?_⟩⟩,fun a ha=>by
  have:=Option.some.inj ha
  subst this;exact ⟨_,_,heap_alloc_new w.drew _⟩⟩,(((Below.refl _ w).drew).alloc (Nat.le_refl _) _)⟩
 have ha:(⟨w.heap.size,0,none⟩:Addr).add j=⟨w.heap.size,j,none⟩:=by unfold Addr.add; split<;>simp_all
 rw [ha,cell_of_row _ w.heap.size j _ _ _ (show (w.drew.alloc _).heap[w.heap.size]?=_ from heap_alloc_new w.drew _)];have hj:j<s.length:=by have:=(List.getElem?_eq_some_iff.1 hu).1; rw [bvals_length] at this; exact this
 rw [←hu];simp [bytesRow,bvals,Array.getElem?_append,hj]
def putS (D:List Trie.KV) (x:List UInt8):List Trie.KV:=if (lookB D (shaW (1::x))).isSome then D else putB D (shaW (1::x)) x
structure StoreP (w:World) (g b:Nat) (D:List Trie.KV):Prop where
 blk:Blk w g 178 #[.map (some b)]
 map:BMap w b D
theorem StoreP.next {w w':World} {g b:Nat} {D:List Trie.KV} (h:StoreP w g b D) (hb:Below w.heap.size w w'):StoreP w' g b D:=⟨h.blk.below hb h.blk.lt,h.map.next hb⟩
theorem StoreP.ne {w:World} {g b:Nat} {D:List Trie.KV} (h:StoreP w g b D):g≠b:=by
 obtain ⟨vs,⟨E,cl,h1,_⟩,_⟩:=h.map.ex;have h2:=h.blk;unfold Blk at h2;intro e;subst e;rw [h2] at h1;cases h1
theorem grown_of_low {w w':World} (k:Option Nat) (h:Below w.heap.size w w'):w.grownBy w' k:=⟨h.os,h.tape,h.output,h.size,fun i hi _=>h.block i hi⟩
theorem store_New (w:World):Calls Tryz.prog 50 #[] w fun e w'=>∃ g b,e= .returned (.pointer (some ⟨g,0,none⟩))∧StoreP w' g b []∧Below w.heap.size w w'∧w.heap.size≤g∧w.heap.size≤b:=by
 have HP:Hid (∀ g b w',StoreP w' g b []→Below w.heap.size w w'→w.heap.size≤g→w.heap.size≤b→(fun e w'=>∃ g b,e=Ending.returned (.pointer (some ⟨g,0,none⟩))∧StoreP w' g b []∧Below w.heap.size w w'∧w.heap.size≤g∧w.heap.size≤b) (Ending.returned (.pointer (some ⟨g,0,none⟩))) w'):=ι (fun g b w' h1 h2 h3 h4=>⟨g,b,rfl,h1,h2,h3,h4⟩);generalize (fun e w'=>∃ g b,e=Ending.returned (.pointer (some ⟨g,0,none⟩))∧StoreP w' g b []∧Below w.heap.size w w'∧w.heap.size≤g∧w.heap.size≤b)=P at HP ⊢;have HS:Hid (∀ c,StoreP ((w.alloc (.map #[] c)).alloc (.cells #[.map (some w.heap.size)] 178)) (w.heap.size+1) w.heap.size []):=ι (fun c=>
  ⟨by have:=Blk.new (w.alloc (.map #[] c)) 178 #[.map (some w.heap.size)]; rwa [World.size_alloc] at this,(BMap.made w c).next (by go_grown)⟩)
 have hmm:=@run_makeMap Tryz.prog;go_enter Tryz.func50,Tryz.ntmps50
 go_wp2_with fail
 exact HP.out _ _ _ (HS.out _) (by go_grown) (by simp) (by simp)
theorem store_Put (w:World) (g b:Nat) (D:List Trie.KV) (h:StoreP w g b D) (s:List UInt8) (hs:s.length≤900000) (hT:Tbl w):
  Calls Tryz.prog 96 #[.pointer (some ⟨g,0,none⟩),s] w fun e w'=>e= .returned (.string ⟨(shaW (1::s)).toArray⟩)∧StoreP w' g b (putS D s)∧w.grownBy w' (some b):=by
 have HP:Hid (∀ w',StoreP w' g b (putS D s)→w.grownBy w' (some b)→(fun e w'=>e=Ending.returned (.string ⟨(shaW (1::s)).toArray⟩)∧StoreP w' g b (putS D s)∧w.grownBy w' (some b)) (Ending.returned (.string ⟨(shaW (1::s)).toArray⟩)) w'):=ι (fun w' h1 h2=>⟨rfl,h1,h2⟩);generalize (fun e w'=>e=Ending.returned (.string ⟨(shaW (1::s)).toArray⟩)∧StoreP w' g b (putS D s)∧w.grownBy w' (some b))=P at HP ⊢;have HSt:=ι h;have HD:=ι (digest_Sum w 1 (by omega) (by omega) s (by omega) hT);have HPS:Hid (putS D s=if (lookB D (shaW (1::s))).isSome then D else putB D (shaW (1::s)) s):=ι rfl;rw [show UInt8.ofNat 1=1 from rfl] at HD;generalize putS D s=D' at *;generalize shaW (1::s)=k at *;clear h hT hs;go_enter Tryz.func96,Tryz.ntmps96
 go_wp2_with fail
 refine HD.out.mono ?_;rintro e w1 ⟨rfl,hb1⟩;have HB1:=ι hb1;have S1:=ι (HSt.out.next hb1);clear hb1;have l1:w1.cell? ⟨g,0,none⟩=some (.map (some b)):=S1.out.blk.cell 0;obtain ⟨Av,nv,cv,_,_,hlk⟩:=S1.out.map.get Tryz.underlying176 k;have lk:=hlk w1 (Below.refl _ _);simp only [ss] at lk;clear hlk;cases hl:(lookB D k).isSome with
 |true=>
  rw [hl] at lk HPS;have HE:=ι (show D'=D from HPS.out);clear hl;go_wp2_with fail
  exact HP.out _ (by rw [HE.out]; exact S1.out) (grown_of_low _ HB1.out)
 |false=>
  rw [hl] at lk HPS;have HE:=ι (show D'=putB D k s from HPS.out);obtain ⟨cc,w2,hrun,hrd,hb2⟩:=bytes_of w1 s;have S2:=ι (S1.out.next hb2);obtain ⟨vs,hm,he⟩:=S2.out.map.store k s _ cc hrd;have HW:=ι (And.intro hm (And.intro he hb2));clear hl hm he hrd hb2;go_wp2_with (at_mapUpdate; refine wpList_mapUpdate_is _ rfl _ _ _ 176 rfl ss_type _ Tryz.underlying176 b vs HW.out.1 k (.slice (some ⟨w1.heap.size,0,none⟩) s.length cc) rfl rfl rfl ?_; intro w3 hm2 hg2 hs2; have H2:=ι (And.intro hm2 (And.intro hg2 hs2)); clear hm2 hg2 hs2)
  refine HP.out _ ⟨S2.out.blk.grown H2.out.2.1 (fun e=>S2.out.ne (by injection e)),by rw [HE.out]; exact HW.out.2.1 _ H2.out.1 H2.out.2.1 H2.out.2.2⟩ ?_;exact (grown_of_low _ (HB1.out.nxt HW.out.2.2)).trans H2.out.2.1
theorem store_Get (w:World) (g b:Nat) (D:List Trie.KV) (h:StoreP w g b D) (k:List UInt8):
  Calls Tryz.prog 165 #[.pointer (some ⟨g,0,none⟩),k] w fun e w'=>e= .returned (.tuple #[.string ⟨((lookB D k).getD []).toArray⟩,.bool (lookB D k).isSome])∧Below w.heap.size w w':=by
 have HP:Hid (∀ w',Below w.heap.size w w'→(fun e w'=>e=Ending.returned (.tuple #[.string ⟨((lookB D k).getD []).toArray⟩,.bool (lookB D k).isSome])∧Below w.heap.size w w') (Ending.returned (.tuple #[.string ⟨((lookB D k).getD []).toArray⟩,.bool (lookB D k).isSome])) w'):=ι (fun w' h1=>⟨rfl,h1⟩);generalize (fun e w'=>e=Ending.returned (.tuple #[.string ⟨((lookB D k).getD []).toArray⟩,.bool (lookB D k).isSome])∧Below w.heap.size w w')=P at HP ⊢;have l1:w.cell? ⟨g,0,none⟩=some (.map (some b)):=h.blk.cell 0;obtain ⟨Av,nv,cv,_,hcv,hlk⟩:=h.map.get Tryz.underlying176 k;have lk:=hlk w (Below.refl _ _);have cv1:=hcv w (Below.refl _ _);simp only [ss] at lk;generalize (lookB D k).getD []=x at *;generalize (lookB D k).isSome=y at *;clear hlk hcv h;go_enter Tryz.func165,Tryz.ntmps165
 go_wp2_with fail
 exact HP.out _ (by first|exact Below.refl _ _|go_grown)
end
section
open Go.RowKit Go.Instr
attribute [local go_sem] ba_get ByteArray.mk_append_mk
def nodeOf (D:List Trie.KV) (k:List UInt8):Nd × Nat:=match lookB D k with
 |none=>(zeroN,90)
 |some s=>decN s
theorem decN_K (s:List UInt8):(decN s).1.2.2.2.length=16:=by
 rcases decN_cases s with h|⟨n,h,h2,_⟩
 ·rw [h]; rfl
 ·rw [h]; exact h2
theorem lookB_mem {D:List Trie.KV} {k s:List UInt8} (h:lookB D k=some s):(k,s)∈D:=by
 induction D with
 |nil=>simp [lookB] at h
 |cons x D ih=>
  simp only [lookB] at h;by_cases hk:k=x.1
  ·rw [if_pos hk] at h;injection h with h
   subst hk;subst h;exact List.mem_cons_self ..
  ·rw [if_neg hk] at h;exact List.mem_cons_of_mem _ (ih h)
theorem store_Node (w:World) (g b:Nat) (D:List Trie.KV) (h:StoreP w g b D) (key:List UInt8) (hs:∀ x∈D,x.2.length≤900000):
  Calls Tryz.prog 137 #[.pointer (some ⟨g,0,none⟩),key] w (DecNEnd w (nodeOf D key)):=by
 have HP:Hid (∀ w' n (c:Nat),nodeOf D key=(n,c)→Below w.heap.size w w'→DecNEnd w (nodeOf D key) (.returned (.tuple #[.agg (nodeV n.1 n.2.1 n.2.2.1 n.2.2.2).toArray,c])) w'):=ι (fun w' n c e h=>by rw [e]; exact ⟨rfl,h⟩);have HX:Hid (nodeOf D key=match lookB D key with|none=>(zeroN,90)|some s=>decN s):=ι rfl;generalize DecNEnd w (nodeOf D key)=P at HP ⊢;have HG:=ι (fun W (hW:Below w.heap.size w W)=>store_Get W g b D (h.next hW) key);have HL:=ι (fun s (hk:lookB D key=some s)=>show s.length≤900000 from hs _ (lookB_mem hk));generalize nodeOf D key=X at *;clear h hs;go_enter Tryz.func137,Tryz.ntmps137
 go_upto_region 1 with fail
 obtain ⟨rb,hrb⟩:∃ rb,w.heap.size=rb:=⟨_,rfl⟩
 have b1:Hid (Blk (w.alloc (.cells #[ζ,ε,ε,ε,ε,ε,ε,ε,ε,ε,ε,ε,ε,ε,ε,ε,ε,ε,ε] 133)) rb 133 #[ζ,ε,ε,ε,ε,ε,ε,ε,ε,ε,ε,ε,ε,ε,ε,ε,ε,ε,ε]∧Below w.heap.size w (w.alloc (.cells #[ζ,ε,ε,ε,ε,ε,ε,ε,ε,ε,ε,ε,ε,ε,ε,ε,ε,ε,ε] 133))∧w.heap.size≤rb):=ι (by subst hrb; exact ⟨Blk.new w _ _,by go_grown,Nat.le_refl _⟩);rw [hrb];generalize World.alloc w _=W1 at b1 ⊢;clear hrb;cases hl:lookB D key with
 |none=>
  rw [hl] at HG HX;simp only at HX;clear hl HL;go_wp2_with fail
  refine (HG.out _ b1.out.2.1).mono ?_;rintro e w2 ⟨rfl,hb2⟩;have F5:Hid (Live w w2 [(rb,133,#[ζ,ε,ε,ε,ε,ε,ε,ε,ε,ε,ε,ε,ε,ε,ε,ε,ε,ε,ε])]):=ι (Live.one (b1.out.2.1.nxt hb2) b1.out.2.2 (b1.out.1.below hb2 b1.out.1.lt));have TH:=F5.out.there 0 19 rfl (by decide);have HON:(#[ζ,ε,ε,ε,ε,ε,ε,ε,ε,ε,ε,ε,ε,ε,ε,ε,ε,ε,ε]:Array Value).all (·.oneCell')=true:=by rw [zeros_eq]; exact nodeV_one _ _ _ _
  clear hb2;go_wp2_with (first|((with_reducible refine at_op 16 ?_); refine wpList_build_eq rfl 133 _ rfl #[ζ,ε,ε,ε,ε,ε,ε,ε,ε,ε,ε,ε,ε,ε,ε,ε,ε,ε,ε] (by simp only [List.map_toArray,List.map_cons,List.map_nil]; kernel_rfl) ?_)|((with_reducible refine at_put 16 ?_); refine wpList_store_mid rfl 133 _ _ rfl rb 0 #[ζ,ε,ε,ε,ε,ε,ε,ε,ε,ε,ε,ε,ε,ε,ε,ε,ε,ε,ε] rfl rfl TH info_node HON ?_; have F6:=Live.hall F5 0 (#[ζ,ε,ε,ε,ε,ε,ε,ε,ε,ε,ε,ε,ε,ε,ε,ε,ε,ε,ε]:Array Value).toList rfl rfl; generalize World.setCells _ rb 0 _=W6 at F6 ⊢; have ld:(loadVar 133 ⟨rb,0,none⟩).run Tryz.prog W6= .ok (.agg #[ζ,ε,ε,ε,ε,ε,ε,ε,ε,ε,ε,ε,ε,ε,ε,ε,ε,ε,ε]) W6:=run_loadVar_mid (P:=Tryz.prog) W6 rb 0 133 (#[ζ,ε,ε,ε,ε,ε,ε,ε,ε,ε,ε,ε,ε,ε,ε,ε,ε,ε,ε]:Array Value).toList _ (Blk.range0 (F6.out.blk 0 rfl)) Tryz.underlying133 rfl info_node; clear TH))
  have HF:P (.returned (.tuple #[.agg #[ζ,ε,ε,ε,ε,ε,ε,ε,ε,ε,ε,ε,ε,ε,ε,ε,ε,ε,ε],.int .i64 90])) W6:=HP.out W6 zeroN 90 HX.out F6.out.b;exact ⟨rfl,_,results_cell2 rfl rfl ld rfl,HF⟩
 |some s=>
  rw [hl] at HG HX;simp only [Option.getD_some,Option.isSome_some] at HG;simp only at HX;have HDc:=ι (fun W=>node_Decode W s (by have:=HL.out s hl; omega));have hK:=decN_K s;clear hl HL;generalize decN s=dr at *;obtain ⟨⟨k,p,v,K⟩,cd⟩:=dr;unfold DecNEnd at HDc;simp only at HDc HX hK;have HEq:Hid (∀ w',Below w.heap.size w w'→P (.returned (.tuple #[.agg (nodeV k p v K).toArray,cd])) w'):=ι (fun w' h=>HP.out w' (k,p,v,K) cd HX.out h);have HSz:=ι (nodeV_size (k:=k) (p:=p) (v:=v) hK);have SZ:(Tryz.prog.info? 133).map (·.size)=some (nodeV k p v K).length:=by rw [HSz.out]; exact info_node
  have HON:=nodeV_one k p v K;generalize nodeV k p v K=NV at *;clear hK HX HP;go_wp2_with fail
  refine (HG.out _ b1.out.2.1).mono ?_;rintro e w2 ⟨rfl,hb2⟩;have B2:=ι hb2;clear hb2;go_wp2_with fail
  refine (HDc.out _).mono ?_;rintro e w3 ⟨rfl,hb3⟩;have F6:Hid (Live w w3 [(rb,133,#[ζ,ε,ε,ε,ε,ε,ε,ε,ε,ε,ε,ε,ε,ε,ε,ε,ε,ε,ε])]):=ι (Live.one (b1.out.2.1.nxt (B2.out.nxt hb3)) b1.out.2.2 (b1.out.1.below (B2.out.nxt hb3) b1.out.1.lt));have TH:w3.there rb 0 NV.toArray.size:=by
   rw [show NV.toArray.size=19 by rw [List.size_toArray]; exact HSz.out];exact F6.out.there 0 19 rfl (by decide)
  have SZ2:(Tryz.prog.info? 133).map (·.size)=some NV.toArray.size:=by rw [List.size_toArray]; exact SZ
  clear hb3;go_wp2_with ((with_reducible refine at_put 19 ?_); refine wpList_store_mid rfl 133 _ _ rfl rb 0 NV.toArray rfl rfl TH SZ2 HON ?_; have F7:=Live.hall F6 0 NV.toArray.toList rfl HSz.out.symm; generalize World.setCells _ rb 0 _=W7 at F7 ⊢; have ld:=run_loadVar_mid (P:=Tryz.prog) W7 rb 0 133 NV.toArray.toList _ (Blk.range0 (F7.out.blk 0 rfl)) Tryz.underlying133 rfl SZ; clear TH SZ2)
  have HF:=HEq.out W7 F7.out.b;exact ⟨rfl,_,results_cell2 rfl rfl ld rfl,HF⟩
end
namespace Ex
open Pw Trie
structure Tx where
 kind:Int
 frm:List UInt8
 seq:Int
 dst:List UInt8
 amt:Int
 key:List UInt8
 val:List UInt8
 mem:List Mem
def nameW (s:List UInt8):Bool:=decide (1≤s.length) && decide (s.length≤6)
abbrev maxA:Nat:=1099511627776
def bareX (x:Tx):Bool:=
 if x.kind=1 then x.key.isEmpty && x.val.isEmpty && x.mem.isEmpty
 else if x.kind=2 then x.dst.isEmpty && decide (x.amt=0) && x.mem.isEmpty
 else if x.kind=3 then x.dst.isEmpty && decide (x.amt=0) && x.mem.isEmpty && x.val.isEmpty
 else if x.kind=4 then x.dst.isEmpty && decide (x.amt=0) && (x.key.isEmpty && x.val.isEmpty)
 else false
def ownX (x:Tx):Bool:=
 if x.kind=1 then nameW x.dst && decide (1≤x.amt) && decide (x.amt≤1099511627776)
 else if x.kind=2 then decide (1≤x.val.length) && decide (x.val.length≤32) && (decide (1≤x.key.length) && decide (x.key.length≤6))
 else if x.kind=3 then decide (1≤x.key.length) && decide (x.key.length≤6)
 else okM x.mem
def headX (x:Tx):Bool:=nameW x.frm && decide (0≤x.seq) && decide (x.seq≤1099511627776)
def fineX (x:Tx):Bool:=bareX x && headX x && ownX x
def aKey (n:List UInt8):List UInt8:=97::58::n
def dKey (k:List UInt8):List UInt8:=100::58::k
def sKey:List UInt8:= [115]
def rootB:List UInt8:= [114,111,111,116]
def writA (p:Nat × Nat):List UInt8:=numW p.1++numW p.2
def parseA (v:List UInt8):Option (Nat × Nat):=
 if endS (numS (numS (v,0)).2).2=0∧(numS (v,0)).1≤maxA∧(numS (numS (v,0)).2).1≤maxA then some ((numS (v,0)).1,(numS (numS (v,0)).2).1) else none
def acc (t:T) (n:List UInt8):Option (Nat × Nat):=if (getW t (aKey n)).2=0 then parseA (getW t (aKey n)).1 else some (0,0)
def kindW (t:T) (x:Tx) (f tt:Nat × Nat):T × Nat × Nat:=
 if x.kind=1 then
  if (f.1:Int)<x.amt then (t,161,0)
  else if x.dst=x.frm then (t,0,f.1)
  else if (1099511627776:Int) - x.amt<tt.1 then (t,1,0)
  else (put t (Nib.of (aKey x.dst)) (writA (tt.1+x.amt.toNat,tt.2)),0,f.1 - x.amt.toNat)
 else if x.kind=2 then (put t (Nib.of (dKey x.key)) x.val,0,f.1)
 else if x.kind=3 then (if (getW t (dKey x.key)).2=0 then (del t (Nib.of (dKey x.key)),0,f.1) else (t,(getW t (dKey x.key)).2,0))
 else if x.frm=rootB then (put t (Nib.of sKey) (digM x.mem),0,f.1) else (t,162,0)
def accTo (t:T) (x:Tx):Option (Nat × Nat):=if x.kind=1 then acc t x.dst else some (0,0)
def doW (t:T) (x:Tx):T × Nat:=
 if fineX x=false then (t,150) else
 match acc t x.frm,accTo t x with
 |some f,some tt=>
  if (f.2:Int)≠x.seq∨f.2=maxA then (t,160)
  else if (kindW t x f tt).2.1=0 then (put (kindW t x f tt).1 (Nib.of (aKey x.frm)) (writA ((kindW t x f tt).2.2,f.2+1)),0)
  else (t,(kindW t x f tt).2.1)
 |_,_=>(t,3)
abbrev Rc:=Int × List UInt8 × Int
end Ex
def listW (l:List (List UInt8)):List UInt8:=numW l.length++(l.map textW).flatten
namespace Ex
open Pw Trie
def bodyX (x:Tx):List UInt8:=if x.kind=1 then textW x.dst++numW x.amt.toNat else if x.kind=2 then textW x.key++textW x.val else if x.kind=3 then textW x.key else textW (encM x.mem)
def writX (x:Tx):List UInt8:=UInt8.ofNat x.kind.toNat::(textW x.frm++numW x.seq.toNat)++bodyX x
def rootX (l:List Tx):List UInt8:=shaW (3::listW (l.map writX))
def noRoom (t:T) (k:List UInt8):Bool:=decide (1024≤count t) && decide ((getW t k).2≠0)
def keyX (x:Tx):Option (List UInt8):=if x.kind=1 then (if x.dst=x.frm then none else some (aKey x.dst)) else if x.kind=2 then some (dKey x.key) else if x.kind=3 then none else some sKey
def midW (t:T) (x:Tx):T:=match acc t x.frm,accTo t x with
 |some f,some tt=>(kindW t x f tt).1
 |_,_=>t
def full1 (t:T) (x:Tx):Bool:=match keyX x with
 |some k=>noRoom t k
 |none=>false
def doL (t:T) (x:Tx):T × Nat:=
 if (doW t x).2≠0 then (t,(doW t x).2) else if full1 t x=true then (t,2) else if noRoom (midW t x) (aKey x.frm)=true then (t,2) else ((doW t x).1,0)
def allGoL : T → List Tx → List Mem → T × List Rc × List Mem
  | t, [], m => (t, [], m)
  | t, x :: r, m =>
    ((allGoL (doL t x).1 r (if (doL t x).2 = 0 ∧ x.kind = 4 then x.mem else m)).1,
     (((doL t x).2 : Int), x.frm, x.seq) :: (allGoL (doL t x).1 r (if (doL t x).2 = 0 ∧ x.kind = 4 then x.mem else m)).2.1,
     (allGoL (doL t x).1 r (if (doL t x).2 = 0 ∧ x.kind = 4 then x.mem else m)).2.2)
def allL (t:T) (l:List Tx):(T × List Rc × List Mem) × Nat:=
 if 8<l.length then ((.nil,[],[]),2) else if l.all fineX=false then ((.nil,[],[]),150) else (allGoL t l [],0)
end Ex
section
open Nib
def stepW (n:Nd) (left:List UInt8):List UInt8 × List UInt8:=
 if common n.2.1 left≠n.2.1.length then ([],[])
 else if n.1=2 then (n.2.2.2.getD 0 [],left.drop n.2.1.length)
 else if n.1=1∧n.2.1.length<left.length then ([],[])
 else if n.1=1∨left= [] then ([],n.2.2.1)
 else if n.2.2.2.getD (left.headD 0).toNat []= [] then ([],[])
 else (n.2.2.2.getD (left.headD 0).toNat [],left.tail)
def followW:List UInt8→List UInt8→List (List UInt8)→Nat→List UInt8 × Nat × Bool
 |_,_,[],k=>([],k,false)
 |sought,left,x::r,k=>
  if shaW (1::x)≠sought∨(decN x).2≠0 then ([],k,false)
  else if (stepW (decN x).1 left).1= [] then ((stepW (decN x).1 left).2,k+1,true)
  else followW (stepW (decN x).1 left).1 (stepW (decN x).1 left).2 r (k+1)
def verifyW (root key:List UInt8) (nodes:List (List UInt8)):List UInt8 × Bool × Nat:=
 if Trie.keyedW key=false then ([],false,1)
 else if root= [] then (if nodes= [] then ([],false,0) else ([],false,130))
 else if (followW root (Nib.of key) nodes 0).2.2=true∧(followW root (Nib.of key) nodes 0).2.1=nodes.length then ((followW root (Nib.of key) nodes 0).1,decide ((followW root (Nib.of key) nodes 0).1≠ []),0)
 else ([],false,130)
theorem followW_cons (s left x:List UInt8) (r:List (List UInt8)) (k:Nat):followW s left (x::r) k=if shaW (1::x)≠s∨(decN x).2≠0 then ([],k,false)
  else if (stepW (decN x).1 left).1= [] then ((stepW (decN x).1 left).2,k+1,true)
  else followW (stepW (decN x).1 left).1 (stepW (decN x).1 left).2 r (k+1):=rfl
theorem followW_le:∀ (r:List (List UInt8)) (s l:List UInt8) (k:Nat),(followW s l r k).2.1≤k+r.length
 | [],_,_,_=>by simp [followW]
 |x::r,s,l,k=>by
  rw [followW_cons]
  split
  ·show k≤_;omega
  ·split
   ·show k+1≤_;simp
   ·have:=followW_le r (stepW (decN x).1 l).1 (stepW (decN x).1 l).2 (k+1)
    rw [List.length_cons]; omega
theorem headD_ix {a:UInt8} (h:a≤15):a.toNat=(Trie.ix a).val:=by
 have:a.toNat≤15:=by rw [UInt8.le_iff_toNat_le] at h; exact h
 unfold Trie.ix;simp
 omega
namespace Trie
def nd (t:T):Nd:=(kindT t,pathT t,valT t,sumsT t)
theorem decN_text {t:T} (hn:t≠ .nil) (hw:wf t) (hs:small t):decN (textT t)=(nd t,0):=
 decN_of (nd t) (sumsT_length t) (fineT hn hw hs)
theorem sum_text {t:T} (hn:t≠ .nil):shaW (1::textT t)=sumT t:=(sumT_eq hn).symm
def trailT:T→List UInt8→List T
 | .nil,_=> []
 | .leaf p v,_=> [.leaf p v]
 | .ext p t,q=> .ext p t::if common p q=p.length then trailT t (q.drop p.length) else []
 | .branch v kids,q=> .branch v kids::match q with
  | []=> []
  |b::r=>trailT (kids (ix b)) r
theorem step_leaf (p v q:List UInt8):stepW (nd (.leaf p v)) q=([],look (.leaf p v) q):=by
 unfold stepW nd;simp only [pathT,kindT,valT,look];by_cases h:common p q=p.length
 ·rw [if_neg (by simpa using h),if_neg (by decide)];have hq:=prefix_common.1 h;have hle:=(common_le p q).2;by_cases hl:p.length<q.length
  ·rw [if_pos ⟨trivial,hl⟩,if_neg (fun e=>by rw [e] at hl; omega)]
  ·rw [if_neg (fun e=>hl e.2),if_pos (.inl trivial),if_pos];rw [hq,List.drop_of_length_le (by omega),List.append_nil]
 ·rw [if_pos h,if_neg (fun e=>h (by subst e; have:=(common_take q q q.length).2 ⟨Nat.le_refl _,Nat.le_refl _,rfl⟩; have:=(common_le q q).1; omega))]
theorem step_ext (p q:List UInt8) (t:T):stepW (nd (.ext p t)) q=if common p q=p.length then (sumT t,q.drop p.length) else ([],[]):=by
 unfold stepW nd;simp only [pathT,kindT,valT];by_cases h:common p q=p.length
 ·rw [if_neg (by simpa using h),if_pos trivial,if_pos h];rfl
 ·rw [if_pos h,if_neg h]
theorem step_end (v:List UInt8) (kids:Fin 16→T):stepW (nd (.branch v kids)) []=([],v):=by
 unfold stepW nd;simp only [pathT,kindT,valT];rfl
theorem common_nil (q:List UInt8):common [] q=0:=by cases q<;>rfl
theorem stepW_branch (v:List UInt8) (K:List (List UInt8)) (b:UInt8) (r:List UInt8):stepW (3,[],v,K) (b::r)=if K.getD b.toNat []= [] then ([],[]) else (K.getD b.toNat [],r):=by
 unfold stepW;simp [common_nil]
theorem step_branch (v:List UInt8) (kids:Fin 16→T) (b:UInt8) (r:List UInt8) (hb:b≤15):stepW (nd (.branch v kids)) (b::r)=if sumT (kids (ix b))= [] then ([],[]) else (sumT (kids (ix b)),r):=by
 have e:(sumsT (.branch v kids)).getD b.toNat []=sumT (kids (ix b)):=by
  rw [headD_ix hb,sumsT_at];rfl
 show stepW (3,[],v,sumsT (.branch v kids)) (b::r)=_;rw [stepW_branch];simp only [e]
theorem sumT_empty {t:T}:sumT t= []↔t= .nil:=by
 constructor
 ·intro h;refine Classical.byContradiction fun hn=> ?_
  have:=sumT_len hn
  rw [h] at this;cases this
 ·intro h; subst h; rfl
theorem follow_trail (t:T):∀ (q:List UInt8) (k:Nat),t≠ .nil→wf t→small t→fit q=true→followW (sumT t) q ((trailT t q).map textT) k=(look t q,k+(trailT t q).length,true):=by
 induction t with
 |nil=>intro q k h; exact absurd rfl h
 |leaf p v=>
  intro q k hn hw hs hq;simp only [trailT,List.map_cons,List.map_nil,List.length_singleton];rw [followW_cons,decN_text hn hw hs,sum_text hn,if_neg (by simp),step_leaf,if_pos rfl]
 |ext p t ih=>
  intro q k hn hw hs hq;have hnt:t≠ .nil:=fun e=>by have:=hw.2.2.1; rw [e] at this; cases this
  simp only [trailT,List.map_cons,List.length_cons];rw [followW_cons,decN_text hn hw hs,sum_text hn,if_neg (by simp),step_ext];simp only [look];by_cases hc:common p q=p.length
  ·rw [if_pos hc,if_pos hc,if_pos hc,if_neg (fun e=>hnt (sumT_empty.1 e)),ih _ _ hnt hw.2.2.2 (small_ext hw.1 hs) (fit_drop _ hq)];simp only [Prod.mk.injEq,true_and,and_true];omega
  ·rw [if_neg hc,if_neg hc,if_neg hc,if_pos rfl];rfl
 |branch v kids ih=>
  intro q k hn hw hs hq;cases q with
  |nil=>
   simp only [trailT,List.map_cons,List.map_nil,List.length_singleton];rw [followW_cons,decN_text hn hw hs,sum_text hn,if_neg (by simp),step_end,if_pos rfl];rfl
  |cons b r=>
   obtain ⟨hb,hr⟩:=fit_cons hq;simp only [trailT,List.map_cons,List.length_cons];rw [followW_cons,decN_text hn hw hs,sum_text hn,if_neg (by simp),step_branch _ _ _ _ hb];simp only [look];by_cases he:kids (ix b)= .nil
   ·rw [if_pos (sumT_empty.2 he),if_pos rfl,he];rfl
   ·rw [if_neg (fun e=>he (sumT_empty.1 e)),if_neg (fun e=>he (sumT_empty.1 e)),ih _ _ _ he (hw.1 _) (small_kid hs _) hr];simp only [Prod.mk.injEq,true_and,and_true];omega
def knots:T→List T
 | .nil=> []
 | .leaf p v=> [.leaf p v]
 | .ext p t=> .ext p t::knots t
 | .branch v kids=> .branch v kids::(List.finRange 16).flatMap fun i=>knots (kids i)
theorem goT_knots (t:T):∀ pl,(goT allW t pl).map (·.2)=knots t:=by
 induction t with
 |nil=>intro pl; rfl
 |leaf p v=>intro pl; simp [goT,allW,knots]
 |ext p t ih=>intro pl; simp only [goT,allW,if_true,List.map_cons,knots]; rw [←ih (pl++p)]
 |branch v kids ih=>
  intro pl;simp only [goT,allW,if_true,List.map_cons,knots,List.map_flatMap]
  congr 2
  funext i
  rw [←ih i (pl++ [hb i])]
theorem told_knots (t:T):toldW allW t=(knots t).map textT:=by
 rw [←goT_knots t [],toldW,textsD,List.map_map];rfl
theorem trailW_iff {path pl:List UInt8}:trailW path pl=true↔path=pl++path.drop pl.length:=by
 unfold trailW;rw [decide_eq_true_eq];exact prefix_common
theorem goT_no (may:List UInt8→Bool) (t:T) (pl:List UInt8) (h:may pl=false):goT may t pl= []:=by
 cases t<;>simp [goT,h]
theorem goT_trail (t:T):∀ (pl q:List UInt8),wf t→fit q=true→(goT (trailW (pl++q)) t pl).map (·.2)=trailT t q:=by
 have yes:∀ pl q:List UInt8,trailW (pl++q) pl=true:=fun pl q=>trailW_iff.2 (by simp)
 induction t with
 |nil=>intro pl q _ _; rfl
 |leaf p v=>intro pl q _ _; simp [goT,yes,trailT]
 |ext p t ih=>
  intro pl q hw hq;simp only [goT,yes,if_true,List.map_cons,trailT]
  congr 1
  by_cases hc:common p q=p.length
  ·rw [if_pos hc,←ih (pl++p) (q.drop p.length) hw.2.2.2 (fit_drop _ hq),List.append_assoc,←prefix_common.1 hc]
  ·rw [if_neg hc,goT_no _ _ _ _]
   ·rfl
   ·rw [Bool.eq_false_iff];intro h
    have:=trailW_iff.1 h
    rw [List.append_assoc] at this;have h2:=List.append_cancel_left this;apply hc
    rw [prefix_common];rw [h2];simp
 |branch v kids ih=>
  intro pl q hw hq;simp only [goT,yes,if_true,List.map_cons];cases q with
  |nil=>
   show T.branch v kids::_=T.branch v kids:: []
   congr 1
   rw [List.map_eq_nil_iff,List.flatMap_eq_nil_iff];intro i _;refine goT_no _ _ _ ?_;rw [Bool.eq_false_iff];intro h
   have:=congrArg List.length (trailW_iff.1 h)
   simp at this
  |cons b r=>
   obtain ⟨hb,hr⟩:=fit_cons hq
   show T.branch v kids::_=T.branch v kids::trailT (kids (ix b)) r
   congr 1
   rw [List.map_flatMap];have key:∀ i:Fin 16,(goT (trailW (pl++b::r)) (kids i) (pl++ [Trie.hb i])).map (·.2)=if i=ix b then trailT (kids (ix b)) r else []:=by
    intro i;by_cases e:i=ix b
    ·subst e;rw [if_pos rfl,←ih (ix b) (pl++ [Trie.hb (ix b)]) r (hw.1 _) hr,List.append_assoc]
     have:Trie.hb (ix b)=b:=by
      unfold Trie.hb;apply UInt8.toNat_inj.1
      have h15:b.toNat≤15:=by rw [UInt8.le_iff_toNat_le] at hb; exact hb
      simp [ix]
      omega
     rw [this];rfl
    ·rw [if_neg e,goT_no]
     ·rfl
     ·rw [Bool.eq_false_iff];intro h
      have:=trailW_iff.1 h
      rw [List.append_assoc] at this;have h2:=List.append_cancel_left this;simp only [List.cons_append,List.nil_append,List.cons.injEq] at h2;apply e
      have h3:=(ix_of i).1;rw [←h3]
      show ix (UInt8.ofNat i.val)=ix b;rw [h2.1];rfl
   simp only [key];have h2:∀ l:List (Fin 16),l.Nodup→(l.flatMap fun j=>if j=ix b then trailT (kids (ix b)) r else [])=if ix b∈l then trailT (kids (ix b)) r else []:=by
    intro l
    induction l with
    |nil=>intro _; rfl
    |cons a l ihl=>
     intro hn;rw [List.nodup_cons] at hn;rw [List.flatMap_cons,ihl hn.2];by_cases e:a=ix b
     ·subst e; rw [if_pos rfl,if_neg hn.1]; simp
     ·rw [if_neg e];simp [show ¬ix b=a from fun h=>e h.symm]
   rw [h2 _ (List.nodup_finRange 16),if_pos (List.mem_finRange _)]
theorem told_trail {t:T} (hw:wf t) {q:List UInt8} (hq:fit q=true):toldW (trailW q) t=(trailT t q).map textT:=by
 rw [←goT_trail t [] q hw hq,List.nil_append,toldW,textsD,List.map_map];rfl
theorem verify_whole {t:T} (h:Good t) {key:List UInt8} (hk:keyedW key=true):verifyW (sumT t) key (toldW (trailW (Nib.of key)) t)=(look t (Nib.of key),decide (look t (Nib.of key)≠ []),0):=by
 unfold verifyW;rw [if_neg (by simp [hk]),told_trail h.wf (Nib.fit_of key)];by_cases hn:t= .nil
 ·subst hn;rw [if_pos (show sumT .nil= [] from rfl),if_pos (show (trailT .nil (Nib.of key)).map textT= [] from rfl)];rfl
 ·rw [if_neg (fun e=>hn (sumT_empty.1 e)),follow_trail t _ 0 hn h.wf h.small (Nib.fit_of key)];simp
end Trie
end
section
open Go.RowKit Go.Instr
attribute [local go_sem] ba_get ByteArray.mk_append_mk
def StepEnd (w:World) (r:List UInt8 × List UInt8) (e:Ending) (w':World):Prop:=e= .returned (.tuple #[r.1,r.2])∧Below w.heap.size w w'
theorem stepW_eq (k:Nat) (p v:List UInt8) (K:List (List UInt8)) (left:List UInt8):stepW (k,p,v,K) left=if Nib.common p left≠p.length then ([],[])
 else if k=2 then (K.getD 0 [],left.drop p.length)
 else if k=1∧p.length<left.length then ([],[])
 else if k=1∨left= [] then ([],v)
 else if K.getD (left.headD 0).toNat []= [] then ([],[])
 else (K.getD (left.headD 0).toNat [],left.tail):=rfl
theorem z_17 {P:Prop} (h:P:=by
 rw [B2.out.cell,List.getElem?_toArray,show 3+i=i+1+1+1 by omega];unfold nodeV;rw [List.getElem?_cons_succ,List.getElem?_cons_succ,List.getElem?_cons_succ,strv_at (by rw [HK.out]; exact hi),List.getD_eq_getElem?_getD,List.getElem?_eq_getElem (by rw [HK.out]; exact hi)];rfl):P:=h
theorem z_18 {P:Prop} (h:P:=by
 have c2:w1.cell? ⟨nb,2,none⟩=some (v:Value):=B2.out.cell 2;have c3:∀ i,i<16→w1.cell? ⟨nb,3+i,none⟩=some (.string ⟨(K.getD i []).toArray⟩):=fun i hi=>by
  exact z_17
 have HC3:=ι c3;clear c3 c1 hb0 B1;go_wp2_with fail
 go_quiet (fail)
 go_wp2_with fail
 exact HP.out _ _ _ HX.out (below_drewN BB.out _)):P:=h
theorem proof_step (w:World) (k:Nat) (p v:List UInt8) (K:List (List UInt8)) (hK:K.length=16) (left:List UInt8) (hp:p.length≤100000) (hl:left.length≤100000) (hf:Nib.fit left=true):
  Calls Tryz.prog 113 #[.agg (nodeV k p v K).toArray,left] w (StepEnd w (stepW (k,p,v,K) left)):=by
 have HP:Hid (∀ a b w',stepW (k,p,v,K) left=(a,b)→Below w.heap.size w w'→StepEnd w (stepW (k,p,v,K) left) (.returned (.tuple #[a,b])) w'):=ι (fun a b w' e h=>by rw [e]; exact ⟨rfl,h⟩);generalize StepEnd w (stepW (k,p,v,K) left)=P at HP ⊢;have HX:=ι (stepW_eq k p v K left);generalize stepW (k,p,v,K) left=X at *;have HCm:Hid (∀ W,Calls Tryz.prog 97 #[p,left] W fun e w'=>e= .returned (.int .i64 (Nib.common p left:Int))∧Below W.heap.size W w'):=ι (fun W=>nib_Common p left W (by omega) (by omega));have HK:=ι hK;have hle:=Nib.common_le p left;clear hK;by_cases hc:Nib.common p left=p.length
 ·rw [if_neg (by simpa using hc)] at HX;have hpl:p.length≤left.length:=by omega
  rw [hc] at HCm;have hcI:((p.length:Int)==(p.length:Int))=true:=by simp
  by_cases h2:k=2
  ·subst h2;rw [if_pos rfl] at HX;have hd:=run_drop left p.length hpl;generalize left.drop p.length=lr at *;clear hle hc hpl hf hp hl;go_enter Tryz.func113,Tryz.ntmps113
   go_upto_region 1 with fail
   obtain ⟨nb,hnb⟩:∃ nb,w.heap.size=nb:=⟨_,rfl⟩
   have hb0:Hid (Blk (w.alloc (.cells (nodeV 2 p v K).toArray 133)) nb 133 (nodeV 2 p v K).toArray∧Below w.heap.size w (w.alloc (.cells (nodeV 2 p v K).toArray 133))):=ι (by subst hnb; exact ⟨Blk.new _ _ _,by go_grown⟩);rw [hnb];generalize w.alloc (.cells (nodeV 2 p v K).toArray 133)=W0 at hb0 ⊢;clear hnb;have c1:W0.cell? ⟨nb,1,none⟩=some (p:Value):=hb0.out.1.cell 1;go_region_held3 (fun w'=>w'.cell? ⟨nb,1,none⟩=some (p:Value)) (first|go_keep|assumption) ((go_at_call 97; refine (HCm.out _).mono ?_; rintro e w1 ⟨rfl,hb⟩; have B1:Below W0.heap.size W0 w1:=(by first|exact hb|exact hb.start); have d1:w1.cell? ⟨nb,1,none⟩=some (p:Value):=(B1.cell (p:=⟨nb,1,none⟩) hb0.out.1.lt).trans c1; clear hb))
   have B2:=ι (hb0.out.1.below B1 hb0.out.1.lt);have BB:Hid (Below w.heap.size w w1):=ι (hb0.out.2.nxt B1);have c0:w1.cell? ⟨nb,0,none⟩=some (.int .i64 (2:Int)):=B2.out.cell 0;have c2:w1.cell? ⟨nb,2,none⟩=some (v:Value):=B2.out.cell 2;have c3:∀ i,i<16→w1.cell? ⟨nb,3+i,none⟩=some (.string ⟨(K.getD i []).toArray⟩):=fun i hi=>by
    exact z_17
   have HC3:=ι c3;clear c3 c1 hb0 B1;have c3:=HC3.out 0 (by omega);go_wp2_with fail
   go_quiet (fail)
   go_wp2_with fail
   exact HP.out _ _ _ HX.out (below_drewN BB.out _)
  ·rw [if_neg h2] at HX;have h2I:((k:Int)==2)=false:=by simp; omega
   by_cases h1:k=1
   ·subst h1;by_cases hlt:p.length<left.length
    ·rw [if_pos ⟨rfl,hlt⟩] at HX;have hI:(p.length:Int)<left.length:=by omega
     clear hle hc hpl hf hlt h2 h2I;go_enter Tryz.func113,Tryz.ntmps113
     go_upto_region 1 with fail
     obtain ⟨nb,hnb⟩:∃ nb,w.heap.size=nb:=⟨_,rfl⟩
     have hb0:Hid (Blk (w.alloc (.cells (nodeV 1 p v K).toArray 133)) nb 133 (nodeV 1 p v K).toArray∧Below w.heap.size w (w.alloc (.cells (nodeV 1 p v K).toArray 133))):=ι (by subst hnb; exact ⟨Blk.new _ _ _,by go_grown⟩);rw [hnb];generalize w.alloc (.cells (nodeV 1 p v K).toArray 133)=W0 at hb0 ⊢;clear hnb;have c1:W0.cell? ⟨nb,1,none⟩=some (p:Value):=hb0.out.1.cell 1;go_region_held3 (fun w'=>w'.cell? ⟨nb,1,none⟩=some (p:Value)) (first|go_keep|assumption) ((go_at_call 97; refine (HCm.out _).mono ?_; rintro e w1 ⟨rfl,hb⟩; have B1:Below W0.heap.size W0 w1:=(by first|exact hb|exact hb.start); have d1:w1.cell? ⟨nb,1,none⟩=some (p:Value):=(B1.cell (p:=⟨nb,1,none⟩) hb0.out.1.lt).trans c1; clear hb))
     have B2:=ι (hb0.out.1.below B1 hb0.out.1.lt);have BB:Hid (Below w.heap.size w w1):=ι (hb0.out.2.nxt B1);have c0:w1.cell? ⟨nb,0,none⟩=some (.int .i64 (1:Int)):=B2.out.cell 0;have c2:w1.cell? ⟨nb,2,none⟩=some (v:Value):=B2.out.cell 2;have c3:∀ i,i<16→w1.cell? ⟨nb,3+i,none⟩=some (.string ⟨(K.getD i []).toArray⟩):=fun i hi=>by
      exact z_17
     have HC3:=ι c3;clear c3 c1 hb0 B1;go_wp2_with fail
     exact HP.out _ _ _ HX.out BB.out
    ·rw [if_neg (fun h=>hlt h.2),if_pos (.inl rfl)] at HX;have hI:((p.length:Int)<left.length)=False:=by simp; omega
     clear hle hc hpl hf hlt h2 h2I;go_enter Tryz.func113,Tryz.ntmps113
     go_upto_region 1 with fail
     obtain ⟨nb,hnb⟩:∃ nb,w.heap.size=nb:=⟨_,rfl⟩
     have hb0:Hid (Blk (w.alloc (.cells (nodeV 1 p v K).toArray 133)) nb 133 (nodeV 1 p v K).toArray∧Below w.heap.size w (w.alloc (.cells (nodeV 1 p v K).toArray 133))):=ι (by subst hnb; exact ⟨Blk.new _ _ _,by go_grown⟩);rw [hnb];generalize w.alloc (.cells (nodeV 1 p v K).toArray 133)=W0 at hb0 ⊢;clear hnb;have c1:W0.cell? ⟨nb,1,none⟩=some (p:Value):=hb0.out.1.cell 1;go_region_held3 (fun w'=>w'.cell? ⟨nb,1,none⟩=some (p:Value)) (first|go_keep|assumption) ((go_at_call 97; refine (HCm.out _).mono ?_; rintro e w1 ⟨rfl,hb⟩; have B1:Below W0.heap.size W0 w1:=(by first|exact hb|exact hb.start); have d1:w1.cell? ⟨nb,1,none⟩=some (p:Value):=(B1.cell (p:=⟨nb,1,none⟩) hb0.out.1.lt).trans c1; clear hb))
     have B2:=ι (hb0.out.1.below B1 hb0.out.1.lt);have BB:Hid (Below w.heap.size w w1):=ι (hb0.out.2.nxt B1);have c0:w1.cell? ⟨nb,0,none⟩=some (.int .i64 (1:Int)):=B2.out.cell 0;exact z_18
   ·rw [if_neg (fun h=>h1 h.1)] at HX;have h1I:((k:Int)==1)=false:=by simp; omega
    cases left with
    |nil=>
     rw [if_pos (.inr rfl)] at HX;clear hle hc hpl hf h1 h2;go_enter Tryz.func113,Tryz.ntmps113
     go_upto_region 1 with fail
     obtain ⟨nb,hnb⟩:∃ nb,w.heap.size=nb:=⟨_,rfl⟩
     have hb0:Hid (Blk (w.alloc (.cells (nodeV k p v K).toArray 133)) nb 133 (nodeV k p v K).toArray∧Below w.heap.size w (w.alloc (.cells (nodeV k p v K).toArray 133))):=ι (by subst hnb; exact ⟨Blk.new _ _ _,by go_grown⟩);rw [hnb];generalize w.alloc (.cells (nodeV k p v K).toArray 133)=W0 at hb0 ⊢;clear hnb;have c1:W0.cell? ⟨nb,1,none⟩=some (p:Value):=hb0.out.1.cell 1;go_region_held3 (fun w'=>w'.cell? ⟨nb,1,none⟩=some (p:Value)) (first|go_keep|assumption) ((go_at_call 97; refine (HCm.out _).mono ?_; rintro e w1 ⟨rfl,hb⟩; have B1:Below W0.heap.size W0 w1:=(by first|exact hb|exact hb.start); have d1:w1.cell? ⟨nb,1,none⟩=some (p:Value):=(B1.cell (p:=⟨nb,1,none⟩) hb0.out.1.lt).trans c1; clear hb))
     have B2:=ι (hb0.out.1.below B1 hb0.out.1.lt);have BB:Hid (Below w.heap.size w w1):=ι (hb0.out.2.nxt B1);have c0:w1.cell? ⟨nb,0,none⟩=some (.int .i64 (k:Int)):=B2.out.cell 0;exact z_18
    |cons b r=>
     rw [if_neg (by simp [h1])] at HX;obtain ⟨hb15,_⟩:=Nib.fit_cons hf;have hb16:b.toNat<16:=by rw [UInt8.le_iff_toNat_le] at hb15; simp at hb15; omega
     have hbI:(b.toNat:Int)<16:=by omega
     have hb0:(0:Int)≤b.toNat:=by omega
     have HTl:=run_tail b r;have ne1:((b::r).toArray=#[])=False:=by simp
     have ne2:(b::r).isEmpty=false:=rfl;have hix:∀ W,(Instr.index 9 (.string ⟨(b::r).toArray⟩) (.int .i64 0)).run Tryz.prog W= .ok (.int .u8 (b.toNat:Int)) W:=fun W=>run_byte (b::r) 0 (by simp) W;have HX2:Hid (X=if K.getD b.toNat []= [] then ([],[]) else (K.getD b.toNat [],r)):=ι HX.out;clear hle hc hpl hf h1 h2 HX hb15;generalize hl':(b::r)=left at *;clear hl';have HB16:=ι hb16;clear hb16;go_enter Tryz.func113,Tryz.ntmps113
     go_upto_region 1 with fail
     obtain ⟨nb,hnb⟩:∃ nb,w.heap.size=nb:=⟨_,rfl⟩
     have hb0:Hid (Blk (w.alloc (.cells (nodeV k p v K).toArray 133)) nb 133 (nodeV k p v K).toArray∧Below w.heap.size w (w.alloc (.cells (nodeV k p v K).toArray 133))):=ι (by subst hnb; exact ⟨Blk.new _ _ _,by go_grown⟩);rw [hnb];generalize w.alloc (.cells (nodeV k p v K).toArray 133)=W0 at hb0 ⊢;clear hnb;have c1:W0.cell? ⟨nb,1,none⟩=some (p:Value):=hb0.out.1.cell 1;go_region_held3 (fun w'=>w'.cell? ⟨nb,1,none⟩=some (p:Value)) (first|go_keep|assumption) ((go_at_call 97; refine (HCm.out _).mono ?_; rintro e w1 ⟨rfl,hb⟩; have B1:Below W0.heap.size W0 w1:=(by first|exact hb|exact hb.start); have d1:w1.cell? ⟨nb,1,none⟩=some (p:Value):=(B1.cell (p:=⟨nb,1,none⟩) hb0.out.1.lt).trans c1; clear hb))
     have B2:=ι (hb0.out.1.below B1 hb0.out.1.lt);have BB:Hid (Below w.heap.size w w1):=ι (hb0.out.2.nxt B1);have c0:w1.cell? ⟨nb,0,none⟩=some (.int .i64 (k:Int)):=B2.out.cell 0;have c2:w1.cell? ⟨nb,2,none⟩=some (v:Value):=B2.out.cell 2;have c3:∀ i,i<16→w1.cell? ⟨nb,3+i,none⟩=some (.string ⟨(K.getD i []).toArray⟩):=fun i hi=>by
      exact z_17
     have HC3:=ι c3;clear c3 c1 hb0 B1;have c3:=HC3.out b.toNat HB16.out;generalize K.getD b.toNat []=kd at *;generalize b.toNat=bn at *;by_cases hkd:kd= []
     ·subst hkd;rw [if_pos rfl] at HX2;go_wp2_with fail
      exact HP.out _ _ _ HX2.out BB.out
     ·rw [if_neg hkd] at HX2;have ne3:(kd.toArray=#[])=False:=by simp [hkd]
      have ne4:kd.isEmpty=false:=by simp [hkd]
      clear hkd;go_wp2_with fail
      go_quiet (fail)
      go_wp2_with fail
      exact HP.out _ _ _ HX2.out (below_drewN BB.out _)
 ·rw [if_pos hc] at HX;have hcI:((Nib.common p left:Int)==(p.length:Int))=false:=by simp; omega
  clear hle hc hf;generalize Nib.common p left=cm at *;go_enter Tryz.func113,Tryz.ntmps113
  go_upto_region 1 with fail
  obtain ⟨nb,hnb⟩:∃ nb,w.heap.size=nb:=⟨_,rfl⟩
  have hb0:Hid (Blk (w.alloc (.cells (nodeV k p v K).toArray 133)) nb 133 (nodeV k p v K).toArray∧Below w.heap.size w (w.alloc (.cells (nodeV k p v K).toArray 133))):=ι (by subst hnb; exact ⟨Blk.new _ _ _,by go_grown⟩);rw [hnb];generalize w.alloc (.cells (nodeV k p v K).toArray 133)=W0 at hb0 ⊢;clear hnb;have c1:W0.cell? ⟨nb,1,none⟩=some (p:Value):=hb0.out.1.cell 1;go_region_held3 (fun w'=>w'.cell? ⟨nb,1,none⟩=some (p:Value)) (first|go_keep|assumption) ((go_at_call 97; refine (HCm.out _).mono ?_; rintro e w1 ⟨rfl,hb⟩; have B1:Below W0.heap.size W0 w1:=(by first|exact hb|exact hb.start); have d1:w1.cell? ⟨nb,1,none⟩=some (p:Value):=(B1.cell (p:=⟨nb,1,none⟩) hb0.out.1.lt).trans c1; clear hb))
  have B2:=ι (hb0.out.1.below B1 hb0.out.1.lt);have BB:Hid (Below w.heap.size w w1):=ι (hb0.out.2.nxt B1);have c0:w1.cell? ⟨nb,0,none⟩=some (.int .i64 (k:Int)):=B2.out.cell 0;have c2:w1.cell? ⟨nb,2,none⟩=some (v:Value):=B2.out.cell 2;have c3:∀ i,i<16→w1.cell? ⟨nb,3+i,none⟩=some (.string ⟨(K.getD i []).toArray⟩):=fun i hi=>by
   exact z_17
  have HC3:=ι c3;clear c3 c1 hb0 B1;go_wp2_with fail
  exact HP.out _ _ _ HX.out BB.out
end
end Go.Proofs.YtnelhjfjkkdoaaaGreatDoor