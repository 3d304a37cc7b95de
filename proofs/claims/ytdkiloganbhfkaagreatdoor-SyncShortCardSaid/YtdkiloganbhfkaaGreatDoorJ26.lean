import Derived.Test.YtdkiloganbhfkaaGreatDoorJ23
import Derived.WideMake
set_option linter.unusedSimpArgs false
set_option linter.unusedVariables false
set_option maxHeartbeats 4000000
set_option maxRecDepth 100000
namespace Go.Proofs.YtdkiloganbhfkaaGreatDoor
section
open Go.RowKit Go.Instr
attribute [local go_sem] ba_get ByteArray.mk_append_mk
structure OkH (h:Hd):Prop where
 par:h.par.length≤9223372036854775807
 st:h.st.length≤9223372036854775807
 rc:h.rc.length≤9223372036854775807
 tx:h.tx.length≤9223372036854775807
 mem:h.mem.length≤9223372036854775807
 nxt:h.nxt.length≤9223372036854775807
 sk:h.sk.length≤9223372036854775807
 skl:∀ s∈h.sk,s.length≤9223372036854775807
theorem okH_of {h:Hd} (o:Hd.Ok h):OkH h:=
 {par:=(by have:=o.par_le; omega),st:=(by have:=Hd.maybe_le o.st; omega),rc:=(by have:=Hd.maybe_le o.rc; omega),tx:=(by have:=o.tx; omega),mem:=(by have:=o.mem; omega),nxt:=(by have:=o.nxt; omega),sk:=(by have:=o.sk_le; omega),skl:=fun s hs=>(by have:=o.skl s hs; omega)}
theorem linksV_eq (h:Int):linksV h=Hd.linksH h:=rfl
theorem len32 (s:List UInt8):((s.length:Int)==32)=Hd.sumB s:=by
 unfold Hd.sumB;rw [Bool.eq_iff_iff];simp
 omega
theorem hd_sum (s:List UInt8) (hs:s.length≤9223372036854775807) (w:World):
  Calls Tryz.prog 121 #[s] w fun e w'=>e= .returned (.bool (Hd.sumB s))∧w=w':=by
 have HE:=ι (len32 s);go_enter Tryz.func121,Tryz.ntmps121
 go_wp2
 go_ret
 exact ⟨ret_bool HE.out,rfl⟩
theorem hd_maybe (s:List UInt8) (hs:s.length≤9223372036854775807) (w:World):
  Calls Tryz.prog 124 #[s] w fun e w'=>e= .returned (.bool (Hd.maybeB s))∧w=w':=by
 have HS:=ι (fun W=>hd_sum s hs W);cases s with
 |nil=>
  go_enter Tryz.func124,Tryz.ntmps124
  go_wp2_with fail
  go_ret
  exact ⟨rfl,rfl⟩
 |cons x r=>
  have HE:Hid (Hd.maybeB (x::r)=Hd.sumB (x::r)):=ι rfl;have hne:((x::r)==([]:List UInt8))=false:=rfl;generalize x::r=s at *;generalize Hd.sumB s=b at *;go_enter Tryz.func124,Tryz.ntmps124
  go_wp2_with fail
  refine (HS.out _).mono ?_;rintro e w1 ⟨rfl,rfl⟩;go_wp2_with fail
  go_ret
  exact ⟨ret_bool HE.out.symm,rfl⟩
theorem hd_odd (s:List UInt8) (hs:s.length≤9223372036854775807) (w:World):
  Calls Tryz.prog 122 #[s] w fun e w'=>e= .returned (.bool (!Hd.sumB s))∧w=w':=by
 have HS:=ι (fun W=>hd_sum s hs W);generalize Hd.sumB s=b at *;go_enter Tryz.func122,Tryz.ntmps122
 go_wp2_with fail
 refine (HS.out _).mono ?_;rintro e w1 ⟨rfl,rfl⟩;go_wp2_with fail
 go_ret
 exact ⟨rfl,rfl⟩
theorem hd_in (n:Int) (w:World):
  Calls Tryz.prog 120 #[n,.int .i64 1048576] w fun e w'=>e= .returned (.bool (Hd.inB n))∧w=w':=by
 by_cases h0:0≤n
 ·have h0':(0≤n)=True:=by simp; omega
  have HE:Hid (Hd.inB n=decide (n≤1048576)):=ι (by unfold Hd.inB; rw [decide_eq_true h0]; rfl);clear h0;go_enter Tryz.func120,Tryz.ntmps120
  go_wp2
  go_ret
  exact ⟨ret_bool HE.out.symm,rfl⟩
 ·have h0':(0≤n)=False:=by simp; omega
  have HE:Hid (Hd.inB n=false):=ι (by unfold Hd.inB; rw [decide_eq_false h0]; rfl);clear h0;go_enter Tryz.func120,Tryz.ntmps120
  go_wp2
  go_ret
  exact ⟨ret_bool HE.out.symm,rfl⟩
theorem hd_numbers (w:World) (h:Hd) (A:Option Addr) (c:Nat):
  Calls Tryz.prog 86 #[.agg (η h [.slice A h.sk.length c])] w (Ret w (.bool (Hd.numsB h))):=by
 have HP:Hid (∀ (b:Bool) w',Hd.numsB h=b→Below w.heap.size w w'→Ret w (.bool (Hd.numsB h)) (.returned (.bool b)) w'):=ι (fun b w' e h=>by rw [e]; exact ⟨rfl,h⟩);generalize Ret w (.bool (Hd.numsB h))=P at HP ⊢;have HX:Hid (Hd.numsB h=(Hd.inB h.hgt && Hd.inB h.epo && Hd.inB h.vw)):=ι rfl;generalize Hd.numsB h=X at *;have H0:=ι (fun W=>hd_in h.hgt W);have H1:=ι (fun W=>hd_in h.epo W);have H2:=ι (fun W=>hd_in h.vw W);generalize Hd.inB h.hgt=b0 at *;generalize Hd.inB h.epo=b1 at *;generalize Hd.inB h.vw=b2 at *;go_enter Tryz.func86,Tryz.ntmps86
 go_upto_region 1 with fail
 have F0:=Live.ha (ι (Live.start w)) (η h [.slice A h.sk.length c]) 41;generalize World.alloc w _=W0 at F0 ⊢;generalize w.heap.size=xb at F0 ⊢;have k0:=(F0.out.blk 0 rfl).c11;go_wp2_with fail
 refine (H0.out _).mono ?_;rintro e w1 ⟨rfl,rfl⟩;cases b0 with
 |false=>
  go_wp2_with fail
  exact HP.out _ _ HX.out F0.out.b
 |true=>
 go_wp2_with fail
 refine (H1.out _).mono ?_;rintro e w1 ⟨rfl,rfl⟩;cases b1 with
 |false=>
  go_wp2_with fail
  exact HP.out _ _ HX.out F0.out.b
 |true=>
 go_wp2_with fail
 refine (H2.out _).mono ?_;rintro e w1 ⟨rfl,rfl⟩;go_wp2_with fail
 exact HP.out _ _ (by rw [HX.out]; rfl) F0.out.b
theorem z_16 {P:Prop} (h:P:=by
 go_enter Tryz.func87,Tryz.ntmps87
 go_upto_region 1 with fail
 have F0:=Live.ha (ι (Live.start w)) (η h [.slice A h.sk.length c]) 41;generalize World.alloc w _=W0 at F0 ⊢;generalize w.heap.size=xb at F0 ⊢;have k0:=(F0.out.blk 0 rfl).c11;go_wp2_with fail
 exact HP.out _ _ HX.out F0.out.b):P:=h
theorem hd_first (w:World) (h:Hd) (o:OkH h) (A:Option Addr) (c:Nat):
  Calls Tryz.prog 87 #[.agg (η h [.slice A h.sk.length c])] w (Ret w (.bool (Hd.firstB h))):=by
 have HP:Hid (∀ (b:Bool) w',Hd.firstB h=b→Below w.heap.size w w'→Ret w (.bool (Hd.firstB h)) (.returned (.bool b)) w'):=ι (fun b w' e h=>by rw [e]; exact ⟨rfl,h⟩);generalize Ret w (.bool (Hd.firstB h))=P at HP ⊢;have HX:Hid (Hd.firstB h=if 0<h.hgt then Hd.sumB h.par else h.par.isEmpty && decide (h.epo=0) && decide (h.vw=0) && h.last):=ι rfl;generalize Hd.firstB h=X at *;have HS:=ι (fun W=>hd_sum h.par o.par W);generalize Hd.sumB h.par=b at *;clear o;by_cases h0:0<h.hgt
 ·have h0':(0<h.hgt)=True:=by simp; omega
  have HX:=ι (HX.out.trans (if_pos h0));clear h0;go_enter Tryz.func87,Tryz.ntmps87
  go_upto_region 1 with fail
  have F0:=Live.ha (ι (Live.start w)) (η h [.slice A h.sk.length c]) 41;generalize World.alloc w _=W0 at F0 ⊢;generalize w.heap.size=xb at F0 ⊢;have k0:=(F0.out.blk 0 rfl).c11;go_wp2_with fail
  refine (HS.out _).mono ?_;rintro e w1 ⟨rfl,rfl⟩;go_wp2_with fail
  exact HP.out _ _ HX.out F0.out.b
 ·have h0':(0<h.hgt)=False:=by simp; omega
  have HX:=ι (HX.out.trans (if_neg h0));have hpe:h.par.isEmpty=(h.par== []):=by cases h.par<;>rfl
  have hp0:decide (h.epo=0)=(h.epo==0):=rfl;have hp1:decide (h.vw=0)=(h.vw==0):=rfl;rw [hpe,hp0,hp1] at HX;clear h0 hpe hp0 hp1 HS;cases e0:h.par== [] with
  |false=>
   rw [e0] at HX;exact z_16
  |true=>
  cases e1:h.epo==0 with
  |false=>
   rw [e0,e1] at HX;exact z_16
  |true=>
  cases e2:h.vw==0 with
  |false=>
   rw [e0,e1,e2] at HX;exact z_16
  |true=>
   rw [e0,e1,e2] at HX;go_enter Tryz.func87,Tryz.ntmps87
   go_upto_region 1 with fail
   have F0:=Live.ha (ι (Live.start w)) (η h [.slice A h.sk.length c]) 41;generalize World.alloc w _=W0 at F0 ⊢;generalize w.heap.size=xb at F0 ⊢;have k0:=(F0.out.blk 0 rfl).c11;go_wp2_with fail
   exact HP.out _ _ (by rw [HX.out]; rfl) F0.out.b
def nameOk (f:List UInt8):Bool:=decide (1≤f.length∧f.length≤6)
theorem rc15_Name (f:List UInt8) (hf:f.length≤9223372036854775807) (w:World):
  Calls Tryz.prog 99 #[f] w fun e w'=>e= .returned (.bool (nameOk f))∧w=w':=by
 have HP:Hid (∀ b w',nameOk f=b→w=w'→(fun e w'=>e=Ending.returned (.bool (nameOk f))∧w=w') (Ending.returned (.bool b)) w'):=ι (fun b w' h1 h2=>⟨by rw [h1],h2⟩);generalize (fun e w'=>e=Ending.returned (.bool (nameOk f))∧w=w')=P at HP ⊢;by_cases h1:1≤f.length
 ·have g1:(1:Int)≤(f.length:Int):=by omega
  by_cases h2:f.length≤6
  ·have g2:(f.length:Int)≤6:=by omega
   have HN:Hid (nameOk f=true):=ι (by simp only [nameOk,decide_eq_true_eq]; omega);have g3:(0:Nat)<f.length:=by omega
   clear h2;go_enter Tryz.func99,Tryz.ntmps99
   go_wp2
   exact HP.out _ _ HN.out rfl
  ·have g2:((f.length:Int)≤6)=False:=by simp; omega
   have HN:Hid (nameOk f=false):=ι (by simp only [nameOk,decide_eq_false_iff_not]; omega);have g3:(0:Nat)<f.length:=by omega
   clear h2;go_enter Tryz.func99,Tryz.ntmps99
   go_wp2
   exact HP.out _ _ HN.out rfl
 ·obtain rfl:f= []:=List.eq_nil_of_length_eq_zero (by omega);have HN:Hid (nameOk []=false):=ι rfl;go_enter Tryz.func99,Tryz.ntmps99
  go_wp2
  exact HP.out _ _ HN.out rfl
theorem z_17 {P:Prop} (h:P:=by
 go_enter Tryz.func184,Tryz.ntmps184
 go_upto_region 1 with fail
 have F0:Hid (Blk (w.alloc (.cells #[c,f,q] 225)) w.heap.size 225 #[c,f,q]∧Below w.heap.size w (w.alloc (.cells #[c,f,q] 225))):=ι ⟨Blk.new _ _ _,by go_grown⟩;generalize World.alloc w _=W0 at F0 ⊢;have HLt:=ι F0.out.1.lt;have k0:W0.cell? ⟨w.heap.size,0,none⟩=some (.int .i64 c):=F0.out.1.cell 0;have k1:W0.cell? ⟨w.heap.size,1,none⟩=some (f:Value):=F0.out.1.cell 1;have k2:W0.cell? ⟨w.heap.size,2,none⟩=some (.int .i64 q):=F0.out.1.cell 2;generalize hB:w.heap.size=B at *;clear hB;go_wp2_with (go_at_call 99; refine (HNm.out _).mono ?_; rintro e w1 ⟨rfl,rfl⟩)
 exact HP.out _ _ HD.out F0.out.2):P:=h
theorem ref17_Fine (c:Int) (f:List UInt8) (q:Int) (hf:f.length≤9223372036854775807) (w:World):
  Calls Tryz.prog 184 #[rcV c f q] w fun e w'=>e= .returned (.bool (decide (rcOk c f q)))∧Below w.heap.size w w':=by
 have HP:Hid (∀ b w',decide (rcOk c f q)=b→Below w.heap.size w w'→(fun e w'=>e=Ending.returned (.bool (decide (rcOk c f q)))∧Below w.heap.size w w') (Ending.returned (.bool b)) w'):=ι (fun b w' h1 h2=>⟨by rw [h1],h2⟩);generalize (fun e w'=>e=Ending.returned (.bool (decide (rcOk c f q)))∧Below w.heap.size w w')=P at HP ⊢;have HNm:=ι (fun W=>rc15_Name f hf W);have HK:Hid (rcOk c f q↔0≤c∧c≤1000∧nameOk f=true∧0≤q∧q≤1099511627776):=ι (by
  unfold rcOk nameOk;rw [decide_eq_true_eq]
  constructor
  ·rintro ⟨a,b,d,e,g,i⟩;refine ⟨a,b,⟨?_,e⟩,g,i⟩;rcases f with _|_
   ·exact absurd rfl d
   ·simp
  ·rintro ⟨a,b,⟨d,e⟩,g,i⟩;refine ⟨a,b,?_,e,g,i⟩;rintro rfl;simp at d)
 unfold rcV;generalize nameOk f=nb at HNm HK;clear hf;by_cases h1:0≤c
 ·by_cases h2:c≤1000
  ·cases nb with
   |true=>
    by_cases h3:0≤q
    ·by_cases h4:q≤1099511627776
     ·have HD:Hid (decide (rcOk c f q)=true):=ι (decide_eq_true (HK.out.2 ⟨h1,h2,rfl,h3,h4⟩));clear HK;exact z_17
     ·have HD:Hid (decide (rcOk c f q)=false):=ι (decide_eq_false (fun h=>h4 (HK.out.1 h).2.2.2.2));clear HK;have g4:(q≤1099511627776)=False:=by simp; omega
      exact z_17
    ·have HD:Hid (decide (rcOk c f q)=false):=ι (decide_eq_false (fun h=>h3 (HK.out.1 h).2.2.2.1));clear HK;have g3:(0≤q)=False:=by simp; omega
     exact z_17
   |false=>
    have HD:Hid (decide (rcOk c f q)=false):=ι (decide_eq_false (fun h=>by have:=(HK.out.1 h).2.2.1; cases this));clear HK;exact z_17
  ·have HD:Hid (decide (rcOk c f q)=false):=ι (decide_eq_false (fun h=>h2 (HK.out.1 h).2.1));clear HK;have g2:(c≤1000)=False:=by simp; omega
   exact z_17
 ·have HD:Hid (decide (rcOk c f q)=false):=ι (decide_eq_false (fun h=>h1 (HK.out.1 h).1));clear HK;have g1:(0≤c)=False:=by simp; omega
  exact z_17
theorem ref17_Written (c q:Nat) (f:List UInt8) (hc:c≤1000) (hf:f.length≤6) (hq:q≤1099511627776) (w:World):
  Calls Tryz.prog 185 #[.agg #[c,f,q]] w (Ret w (.string ⟨(numW c++(textW f++numW q)).toArray⟩)):=by
 have HP:Hid (∀ w',Below w.heap.size w w'→Ret w (.string ⟨(numW c++(textW f++numW q)).toArray⟩) (Ending.returned (.string ⟨(numW c++(textW f++numW q)).toArray⟩)) w'):=ι (fun w' h2=>⟨rfl,h2⟩);generalize Ret w (.string ⟨(numW c++(textW f++numW q)).toArray⟩)=P at HP ⊢;have HC:Hid (∀ W,Calls Tryz.prog 150 #[c] W (Ret W (.string ⟨(numW c).toArray⟩))):=ι (fun W=>ref02_Number c (by omega) W);have HQ:Hid (∀ W,Calls Tryz.prog 150 #[q] W (Ret W (.string ⟨(numW q).toArray⟩))):=ι (fun W=>ref02_Number q (by omega) W);have HT:Hid (∀ W,Calls Tryz.prog 154 #[f] W (Ret W (.string ⟨(textW f).toArray⟩))):=ι (fun W=>ref02_Text f (by omega) W);have l1:=numW_len c (by omega);have l2:(textW f).length≤100:=by rw [textW,List.length_append]; have:=numW_len f.length (by omega); omega
 have l3:=numW_len q (by omega);clear hc hf hq;generalize numW c=X at *;generalize textW f=Y at *;generalize numW q=Z at *;have n1:(9223372036854775807<X.length+Y.length)=False:=by simp; omega
 have n2:(9223372036854775807<X.length+Y.length+Z.length)=False:=by simp; omega
 have m1:X.length+Y.length≤9223372036854775807:=by omega
 have m2:X.length+Y.length+Z.length≤9223372036854775807:=by omega
 have m3:X.length+(Y.length+Z.length)≤9223372036854775807:=by omega
 clear l1 l2 l3;go_enter Tryz.func185,Tryz.ntmps185
 go_upto_region 1 with fail
 have F:=Live.ha (ι (Live.start w)) #[c,f,q] 225;generalize World.alloc w _=W1 at F ⊢;have k0:=(F.out.blk 0 rfl).c3;go_region_held3 (fun w'=>w'.cell? ⟨w.heap.size,0,none⟩=some (.int .i64 (c:Int))∧w'.cell? ⟨w.heap.size,1,none⟩=some (f:Value)∧w'.cell? ⟨w.heap.size,2,none⟩=some (.int .i64 (q:Int))) (first|go_keep|(refine ⟨?_,?_,?_⟩<;>assumption)) (first|(go_at_call 150; ((with_reducible refine (HC.out _).mono ?_); (rintro e w1 ⟨rfl,hb⟩; (first|have F:=Live.hb F hb|have F:=Live.hbd F hb); clear hb; have k0:=(F.out.blk 0 rfl).c3)))|(go_at_call 150; ((with_reducible refine (HQ.out _).mono ?_); (rintro e w1 ⟨rfl,hb⟩; (first|have F:=Live.hb F hb|have F:=Live.hbd F hb); clear hb; have k0:=(F.out.blk 0 rfl).c3)))|(go_at_call 154; ((with_reducible refine (HT.out _).mono ?_); (rintro e w1 ⟨rfl,hb⟩; (first|have F:=Live.hb F hb|have F:=Live.hbd F hb); clear hb; have k0:=(F.out.blk 0 rfl).c3))))
 all_goals go_wp2
 all_goals exact HP.out _ F.out.b
theorem RRd.lt {w:World} {g:Nat} {s:List UInt8 × Nat} (h:RRd w g s):g<w.heap.size:=h.1.lt
theorem RRd.below {w w':World} {g:Nat} {s:List UInt8 × Nat} (h:RRd w g s) (hb:Below w.heap.size w w'):RRd w' g s:=⟨h.1.below hb h.1.lt,h.2⟩
theorem RRd.grown {w w':World} {g:Nat} {s:List UInt8 × Nat} {row:Option Nat} (h:RRd w g s) (hg:w.grownBy w' row) (hne:some g≠row):RRd w' g s:=⟨h.1.grown hg hne,h.2⟩
end
section
open Go.RowKit Go.Instr
theorem ba_beq_refl (a:ByteArray):(a==a)=true:=by rw [beq_toListBytes]; simp
def sg (k:List UInt8 × List UInt8 × Bool):Value:= .agg #[k.1,k.2.1,k.2.2]
def sk (k:List UInt8 × List UInt8):Value:=sg (k.1,k.2,false)
theorem sg_run (w:World) (a b:List UInt8 × List UInt8 × Bool):(Op.equalIn 10000 135 (sg a) (sg b)).run Tryz.prog w= .ok (decide (a=b)) w:=by
 obtain ⟨a1,a2,a3⟩:=a;obtain ⟨b1,b2,b3⟩:=b;have u9:=Tryz.underlying9;have a9:=Tryz.isAgg9;have z9:=Tryz.sizeOf9;have u4:=Tryz.underlying4;have a4:=Tryz.isAgg4;have z4:=Tryz.sizeOf4;have hS:Tryz.prog.underlying 135=some (.struct (Tryz.prog.fieldsOf 135)):=by kernel_rfl
 have hp:Tryz.prog.stoodInHeld 135=false:=by kernel_rfl
 simp only [sg];rw [show (10000:Nat)=9999+1 from rfl,run_equalIn_agg w 9999 135 _ _ hS hp];simp only [Program.fieldsOf,Tryz.underlying135];go_simp
 by_cases h1:a1=b1<;>by_cases h2:a2=b2<;>by_cases h3:a3=b3<;>simp [h1,h2,h3,ByteArray.toList_mk]
theorem sg_equal (w:World) (a b:List UInt8 × List UInt8 × Bool):(Op.equal 135 (sg a) (sg b)).run Tryz.prog w= .ok (decide (a=b)) w:=sg_run w a b
theorem sk_equal (w:World) (a b:List UInt8 × List UInt8):(Op.equal 135 (sk a) (sk b)).run Tryz.prog w= .ok (decide (a=b)) w:=by
 rw [sk,sk,sg_equal];obtain ⟨a1,a2⟩:=a;obtain ⟨b1,b2⟩:=b
 congr 1
 apply Bool.eq_iff_iff.2
 simp
theorem leaf_check (e:Bool) (n:Nat) (w:World) (t:TypeId) (d:TypeDesc) (v:Value) (hu:Tryz.prog.underlying t=some d) (h1:d= .string∨d= .bool):(checkKey e (n+1) t v).run Tryz.prog w= .ok () w:=by
 rw [checkKey];rcases h1 with rfl|rfl<;>cases v<;>simp [run_underlying hu]
theorem sk_check (e:Bool) (w:World) (k:List UInt8 × List UInt8):(checkKey e 10000 135 (sk k)).run Tryz.prog w= .ok () w:=by
 have u9:=Tryz.underlying9;have a9:=Tryz.isAgg9;have u4:=Tryz.underlying4;have a4:=Tryz.isAgg4;rw [show (10000:Nat)=9998+1+1 from rfl,checkKey];have c9:=fun v=>leaf_check e 9998 w 9 _ v u9 (.inl rfl);have c4:=fun v=>leaf_check e 9998 w 4 _ v u4 (.inr rfl);simp only [Sem.run_bind,run_underlying Tryz.underlying135,Result.andThen_ok,sk,sg];rw [←Array.forIn_toList];simp only [List.forIn_cons,List.forIn_nil,part,Sem.run_bind,a9,a4,Result.andThen_ok];simp [c9,c4]
theorem sk_now (k:List UInt8 × List UInt8):∀ (E:List MapEntry) (l:List ((List UInt8 × List UInt8) × Value)) (i:Nat),E.map (fun e=>(e.key,e.val))=l.map (fun x=>(sk x.1,x.2))→
  findNow (.struct (Tryz.prog.fieldsOf 135)) (sk k) E i=none∨findNow (.struct (Tryz.prog.fieldsOf 135)) (sk k) E i=some (assoc k l i)
 | [],[],i,_=> .inr rfl
 | [],_::_,_,hE=>by simp at hE
 |_::_,[],_,hE=>by simp at hE
 |e::E,x::l,i,hE=> .inl rfl
theorem sk_stays (k:List UInt8 × List UInt8):sameBits 10000 (sk k) (sk k)=true:=by
 simp only [sk,sg,sameBits];simp [sameBits,ba_beq_refl]
theorem sk_type:KeyType Tryz.prog 135 sk where
 check:=sk_check
 equal:=sk_equal
 now:=⟨_,by kernel_rfl,sk_now⟩
 stays:=sk_stays
abbrev Sg:=List UInt8 × List UInt8 × Bool
def srow (x:Sg):List Value:= [.string ⟨x.1.toArray⟩,.string ⟨x.2.1.toArray⟩,.bool x.2.2]
def srows (l:List Sg):List Value:=l.flatMap srow
theorem srow_length (x:Sg):(srow x).length=3:=rfl
theorem srow_one (x:Sg):∀ u∈srow x,u.oneCell'=true:=by
 intro u hu;simp [srow] at hu
 rcases hu with rfl|rfl|rfl<;>rfl
theorem srows_cons (x:Sg) (l:List Sg):srows (x::l)=srow x++srows l:=rfl
theorem srows_snoc (l:List Sg) (x:Sg):srows (l++ [x])=srows l++srow x:=by simp [srows]
theorem srows_at:∀ (l:List Sg) (i j:Nat) (x:Sg),l[i]?=some x→j<3→(srows l)[i*3+j]?=(srow x)[j]?
 | [],i,j,x,h,_=>by simp at h
 |y::l,0,j,x,h,hj=>by
  simp at h; subst h
  rw [srows_cons,Nat.zero_mul,Nat.zero_add,List.getElem?_append_left (by rw [srow_length]; exact hj)]
 |y::l,i+1,j,x,h,hj=>by
  rw [srows_cons,List.getElem?_append_right (by rw [srow_length]; omega),srow_length,show (i+1)*3+j - 3=i*3+j by omega];exact srows_at l i j x (by simpa using h) hj
theorem srows_set:∀ (l:List Sg) (i:Nat) (x:Sg) (h:Bool),l[i]?=some x→(srows l).set (i*3+2) (.bool h)=srows (l.set i (x.1,x.2.1,h))
 | [],i,x,h,he=>by simp at he
 |y::l,0,x,h,he=>by
  simp at he; subst he
  rfl
 |y::l,i+1,x,h,he=>by
  rw [srows_cons,List.set_append_right _ _ (by rw [srow_length]; omega),srow_length,show (i+1)*3+2 - 3=i*3+2 by omega,srows_set l i x h (by simpa using he)];rfl
def atRow (k:List UInt8 × List UInt8):List Sg→Option Nat
 | []=>none
 |x::l=>if k=(x.1,x.2.1) then some 0 else (atRow k l).map (·+1)
def smap:List Sg→Nat→List ((List UInt8 × List UInt8) × Value)
 | [],_=> []
 |x::l,i=>((x.1,x.2.1),.int .i64 (i:Nat))::smap l (i+1)
theorem assoc_smap (k:List UInt8 × List UInt8):∀ (l:List Sg) (i j:Nat),assoc k (smap l i) j=(atRow k l).map fun n=>(j+n,.int .i64 ((i+n:Nat):Int))
 | [],i,j=>rfl
 |x::l,i,j=>by
  simp only [smap,assoc,atRow];by_cases hk:k=(x.1,x.2.1)
  ·simp [hk]
  ·rw [if_neg hk,if_neg hk,assoc_smap k l (i+1) (j+1)];cases atRow k l with
   |none=>rfl
   |some n=>
    simp only [Option.map_some];rw [show j+1+n=j+(n+1) by omega,show i+1+n=i+(n+1) by omega]
theorem smap_snoc:∀ (l:List Sg) (x:Sg) (i:Nat),smap (l++ [x]) i=smap l i++ [((x.1,x.2.1),.int .i64 ((i+l.length:Nat):Int))]
 | [],x,i=>rfl
 |y::l,x,i=>by
  simp only [List.cons_append,smap,smap_snoc l x (i+1),List.length_cons];rw [show i+1+l.length=i+(l.length+1) by omega]
theorem atRow_lt {k:List UInt8 × List UInt8}:∀ {l:List Sg} {n:Nat},atRow k l=some n→∃ x,l[n]?=some x∧(x.1,x.2.1)=k
 | [],n,h=>by simp [atRow] at h
 |x::l,n,h=>by
  simp only [atRow] at h;by_cases hk:k=(x.1,x.2.1)
  ·rw [if_pos hk] at h; injection h with h; subst h
   exact ⟨x,rfl,hk.symm⟩
  ·rw [if_neg hk] at h;cases ha:atRow k l with
   |none=>rw [ha] at h; simp at h
   |some m=>
    rw [ha] at h; simp at h; subst h;obtain ⟨y,h1,h2⟩:=atRow_lt ha;exact ⟨y,by simpa using h1,h2⟩
theorem smap_set:∀ (l:List Sg) (n i:Nat) (x:Sg) (h:Bool),l[n]?=some x→smap (l.set n (x.1,x.2.1,h)) i=smap l i
 | [],n,i,x,h,he=>by simp at he
 |y::l,0,i,x,h,he=>by simp at he; subst he; rfl
 |y::l,n+1,i,x,h,he=>by simp only [List.set_cons_succ,smap,smap_set l n (i+1) x h (by simpa using he)]
theorem atRow_isSome (k:List UInt8 × List UInt8):∀ l:List Sg,(atRow k l).isSome=l.any fun x=>decide (k=(x.1,x.2.1))
 | []=>rfl
 |x::l=>by
  simp only [atRow,List.any_cons];by_cases hk:k=(x.1,x.2.1)
  ·simp [hk]
  ·simp [hk,atRow_isSome k l]
def may (who mark:List UInt8):Bool:=decide (1≤who.length∧who.length≤6∧mark.length=32)
def sign (l:List Sg) (who mark:List UInt8) (h:Bool):List Sg × Nat:=
 if who.length=0∨6<who.length then (l,1)
 else if mark.length≠32 then (l,3)
 else match atRow (who,mark) l with
  |some n=>(l.set n (who,mark,((l[n]?.map (·.2.2)).getD false && h)),0)
  |none=>if 1024≤l.length then (l,2) else (l++ [(who,mark,h)],0)
structure Tab (w:World) (mb:Nat) (v:Value) (l:List Sg):Prop where
 blk:Blk w (mb+1) 138 #[.map (some mb),v]
 map:MapIs w sk mb (smap l 0)
 own:w.ownsRow (mb+2) 135 3 v l.length (srows l)
end
section
open Go.RowKit Go.Instr
attribute [local go_sem] ba_get ByteArray.mk_append_mk run_makeMap_plain
theorem orc_key (who mark:List UInt8) (w:World):
  Calls Tryz.prog 77 #[who,mark] w fun e w'=>e= .returned (sk (who,mark))∧Below w.heap.size w w':=by
 go_enter Tryz.func77,Tryz.ntmps77
 go_wp2
 go_returns
 exact ⟨rfl,by go_grown⟩
theorem map_keep {w w1:World} {κ:Type} {kv:κ→Value} {b:Nat} {l:List (κ × Value)} (hm:Hid (MapIs w kv b l)) (hb:Below w.heap.size w w1):Hid (MapIs w1 kv b l):=
 ι (hm.out.kept (hb.block b hm.out.lt))
theorem tab_lookup {w:World} {mb:Nat} {l:List Sg} (hm:Hid (MapIs w sk mb (smap l 0))) (who mark:List UInt8):
  (lookup 136 (.map (some mb)) (sk (who,mark)) true).run Tryz.prog w= .ok (.tuple #[.int .i64 (((atRow (who,mark) l).getD 0:Nat):Int),.bool (atRow (who,mark) l).isSome]) w:=by
 rw [hm.out.look_eq sk_type Tryz.underlying136 Tryz.zeroValue3,assoc_smap];cases atRow (who,mark) l with
 |none=>rfl
 |some n=>simp
theorem orc_New (w:World):
  Calls Tryz.prog 39 #[] w fun e w'=>e= .returned (.pointer (some ⟨w.heap.size+1,0,none⟩))∧Tab w' w.heap.size (.slice none 0 0) []∧Below w.heap.size w w'∧w'.heap.size=w.heap.size+2:=by
 go_enter Tryz.func39,Tryz.ntmps39
 go_wp2
 go_ret
 refine ⟨?_,⟨?_,(MapIs.made w 0).kept ?_,World.ownsRow_nil _ _ _ _⟩,by go_grown,?_⟩
 ·simp
 ·have:=heap_alloc_new (w.alloc (.map #[] 0)) (.cells #[.map (some w.heap.size),.slice none 0 0] 138)
  rw [World.size_alloc] at this;exact this
 ·exact heap_alloc_old _ _ (by rw [World.size_alloc]; omega)
 ·simp
theorem orc_Signed (w:World) (mb:Nat) (v:Value) (l:List Sg) (hT:Tab w mb v l) (who mark:List UInt8):
  Calls Tryz.prog 118 #[.pointer (some ⟨mb+1,0,none⟩),who,mark] w fun e w'=>e= .returned (.bool (atRow (who,mark) l).isSome)∧Below w.heap.size w w':=by
 have hlt:=hT.blk.lt;have hc0:w.cell? ⟨mb+1,0,none⟩=some (.map (some mb)):=hT.blk.cell 0;have hml:=hT.map.lt;have HM:=ι hT.map;clear hT;generalize hr:(atRow (who,mark) l).isSome=r;go_enter Tryz.func118,Tryz.ntmps118
 go_wp2
 go_region_with (go_at_call 77; refine (orc_key who mark _).mono ?_; rintro e w1 ⟨rfl,hb⟩; try simp only [World.size_drew,World.size_alloc] at hb; have hbw:Below w.heap.size w w1:=(by first|exact hb|exact hb.start); have hl:=tab_lookup (map_keep HM hbw) who mark; rw [hr] at hl; have hc1:=hbw.cell (p:=⟨mb+1,0,none⟩) hlt; rw [hc0] at hc1; clear hb)
 all_goals go_wp2
 all_goals go_ret
 all_goals exact ⟨rfl,by go_grown⟩
theorem add_zero_addr (g n:Nat):(⟨g,0,none⟩:Addr).add n=⟨g,n,none⟩:=by
 unfold Addr.add;by_cases h:n=0<;>simp [h]
attribute [local go_sem] add_zero_addr
theorem own3_cells {w:World} {base e:Nat} {v:Value} {n:Nat} {l:List Sg} (h:w.ownsRow base e 3 v n (srows l)) (hn:0<n):
  ∃ g c,v= .slice (some ⟨g,0,none⟩) n c∧base≤g∧g<w.heap.size∧n≤c∧∀ i x,l[i]?=some x→w.cell? ⟨g,i*3,none⟩=some (x.1:Value)∧w.cell? ⟨g,i*3+1,none⟩=some (x.2.1:Value)∧w.cell? ⟨g,i*3+2,none⟩=some (.bool x.2.2):=by
 obtain ⟨A,c,rfl,HR,hc,hb⟩:=own_form h;obtain ⟨g,cap,hv,hge,hlt⟩:=h.form hn;injection hv with hA
 subst hA;obtain ⟨ad,e1,hbl,hcell⟩:=HR.2 hn;injection e1 with e1
 subst e1;refine ⟨g,c,rfl,hge,hlt,hc,fun i x hx=> ?_⟩;have q0:=hcell _ _ (srows_at l i 0 x hx (by omega));have q1:=hcell _ _ (srows_at l i 1 x hx (by omega));have q2:=hcell _ _ (srows_at l i 2 x hx (by omega));rw [add_zero_addr] at q0 q1 q2;exact ⟨q0,q1,q2⟩
end
end Go.Proofs.YtdkiloganbhfkaaGreatDoor