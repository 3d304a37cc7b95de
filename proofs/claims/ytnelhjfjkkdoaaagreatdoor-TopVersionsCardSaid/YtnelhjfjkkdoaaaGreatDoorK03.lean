import Derived.Test.YtnelhjfjkkdoaaaGreatDoorK02
import Derived.Laws.Tables
import Derived.Laws.CopyOwn
import Derived.Deep.Cut
import Derived.Deep.WholeRow
import Derived.Deep.MidRow
set_option linter.unusedSimpArgs false
set_option linter.unusedVariables false
set_option maxHeartbeats 4000000
set_option maxRecDepth 100000
namespace Go.Proofs.YtnelhjfjkkdoaaaGreatDoor
section
open Go.RowKit Go.Instr
theorem info_w64:(Tryz.prog.info? 285).map (·.size)=some 64:=by kernel_rfl
theorem wvs_all (l:List UInt32):(wvs l).toArray.all (·.oneCell')=true:=by
 rw [Array.all_eq_true_iff_forall_mem];intro x hx;exact wvs_one l x (by simpa using hx)
theorem zeros64 (b:List UInt8):(wvs (ldW b 0)).toArray=#[.int .u32 0,.int .u32 0,.int .u32 0,.int .u32 0,.int .u32 0,.int .u32 0,.int .u32 0,.int .u32 0,.int .u32 0,.int .u32 0,.int .u32 0,.int .u32 0,.int .u32 0,.int .u32 0,.int .u32 0,.int .u32 0,.int .u32 0,.int .u32 0,.int .u32 0,.int .u32 0,.int .u32 0,.int .u32 0,.int .u32 0,.int .u32 0,.int .u32 0,.int .u32 0,.int .u32 0,.int .u32 0,.int .u32 0,.int .u32 0,.int .u32 0,.int .u32 0,.int .u32 0,.int .u32 0,.int .u32 0,.int .u32 0,.int .u32 0,.int .u32 0,.int .u32 0,.int .u32 0,.int .u32 0,.int .u32 0,.int .u32 0,.int .u32 0,.int .u32 0,.int .u32 0,.int .u32 0,.int .u32 0,.int .u32 0,.int .u32 0,.int .u32 0,.int .u32 0,.int .u32 0,.int .u32 0,.int .u32 0,.int .u32 0,.int .u32 0,.int .u32 0,.int .u32 0,.int .u32 0,.int .u32 0,.int .u32 0,.int .u32 0,.int .u32 0]:=rfl
theorem sha_spread (b:List UInt8) (hb:b.length=64) (w:World):
  Calls Tryz.prog 217 #[.agg (bvals b).toArray] w fun e w'=>e= .returned (.agg (wvs (spreadW b)).toArray)∧Below w.heap.size w w':=by
 have h64:=zeros64 b;have HS:Hid (spreadW b=exW (ldW b 16) 48):=ι rfl;generalize spreadW b=S at HS ⊢;generalize hz:wvs (ldW b 0)=z at h64;go_enter Tryz.func217,Tryz.ntmps217
 go_wp2
 rw [←h64,←hz];have F:Hid (Blk (((w.alloc (.cells (bvals b).toArray 226)).alloc (.cells (wvs (ldW b 0)).toArray 285)).alloc (.cells (wvs (ldW b 0)).toArray 285)) w.heap.size 226 (bvals b).toArray∧Blk (((w.alloc (.cells (bvals b).toArray 226)).alloc (.cells (wvs (ldW b 0)).toArray 285)).alloc (.cells (wvs (ldW b 0)).toArray 285)) (w.heap.size+1) 285 (wvs (ldW b 0)).toArray∧Blk (((w.alloc (.cells (bvals b).toArray 226)).alloc (.cells (wvs (ldW b 0)).toArray 285)).alloc (.cells (wvs (ldW b 0)).toArray 285)) (w.heap.size+2) 285 (wvs (ldW b 0)).toArray∧Below w.heap.size w (((w.alloc (.cells (bvals b).toArray 226)).alloc (.cells (wvs (ldW b 0)).toArray 285)).alloc (.cells (wvs (ldW b 0)).toArray 285))):=ι (by
  refine ⟨((Blk.new w _ _).alloc _).alloc _,(by have:=Blk.new (w.alloc (.cells (bvals b).toArray 226)) 285 (wvs (ldW b 0)).toArray; rw [World.size_alloc] at this; exact this.alloc _),(by have:=Blk.new ((w.alloc (.cells (bvals b).toArray 226)).alloc (.cells (wvs (ldW b 0)).toArray 285)) 285 (wvs (ldW b 0)).toArray; rw [World.size_alloc,World.size_alloc] at this; exact this),by go_grown⟩)
 generalize (((w.alloc (.cells (bvals b).toArray 226)).alloc (.cells (wvs (ldW b 0)).toArray 285)).alloc (.cells (wvs (ldW b 0)).toArray 285))=W1 at F ⊢;clear h64 hz;obtain ⟨f1,f2,f3,f4⟩:=F.out;refine spread_one b hb W1 w.heap.size (w.heap.size+2) f1 f3 _ _ ?_ _ _ _ _ _ _ _ _ _ _ _ _ _ _ _ _ _ _ _ _ _ _ _ _ _ _ _ _ _ _ _ _ _ _ _ _ _ _ _ _ _ _ _ _ _ _ _ _ _ _ _ _ _ _ _ _ _ _ _ _ _ _ _ _ _ _ _ _ _ _ _ _ _ _ _ _ _ _ _ _ _;intro s0 s4 s5 s6 s7 s8 s9 s10 s11 s12 s13 s14 s15 s16 s17 s18 s19 s20 s21 s22 s23 s24 s25 s26 s27 s28 s29 s30 s31 s32 s33 s34 s35 s36 s37 s38 s39 s40 s41 s42 s43 s44 s45 s46 s47 s48 s49 s50 s51 s52 s53 s54 s55 s56 s57 s58 s59 s60 s61 s62 s63 s64 s65 s66 s67 s68 s69 s70 s71 s72 s73 s74 s75 s76 s77 s78 s79 s80 s81 s82 s83 s84 w2 hw2 hg2 hs2;have G2:=ι (And.intro hw2 (And.intro hg2 hs2));clear hw2 hg2 hs2 f1 f2 f3 f4;go_wp2
 refine spread_two (ldW b 16) (ldW_length b 16) w2 (w.heap.size+2) G2.out.1 _ _ _ ?_ _ _ _ _ _ _ _ _ _ _ _ _ _ _ _ _ _ _ _ _ _ _ _ _ _ _ _ _ _ _ _ _ _ _ _ _ _ _ _ _ _ _ _ _ _ _ _ _ _ _ _ _ _ _ _ _ _ _ _ _ _ _ _ _ _ _ _ _ _ _ _ _ _ _ _ _ _ _ _ _ _;intro s0 s4 s5 s6 s7 s8 s9 s10 s11 s12 s13 s14 s15 s16 s17 s18 s19 s20 s21 s22 s23 s24 s25 s26 s27 s28 s29 s30 s31 s32 s33 s34 s35 s36 s37 s38 s39 s40 s41 s42 s43 s44 s45 s46 s47 s48 s49 s50 s51 s52 s53 s54 s55 s56 s57 s58 s59 s60 s61 s62 s63 s64 s65 s66 s67 s68 s69 s70 s71 s72 s73 s74 s75 s76 s77 s78 s79 s80 s81 s82 s83 s84 w3 hw3 hg3 hs3;have e64:(wvs (exW (ldW b 16) 48)).toArray.size=64:=by rw [List.size_toArray,wvs_length]; exact exW_length _ (ldW_length b 16) 48
 generalize exW (ldW b 16) 48=sp at hw3 e64 HS;have i64:(Tryz.prog.info? 285).map (·.size)=some (wvs sp).toArray.size:=by rw [e64]; exact info_w64
 have hr3:Blk w3 (w.heap.size+1) 285 (wvs (ldW b 0)).toArray:=(F.out.2.1.grown G2.out.2.1 (by intro e; injection e with e; omega)).grown hg3 (by intro e; injection e with e; omega);have r64:(wvs (ldW b 0)).toArray.size=(wvs sp).toArray.size:=by rw [e64]; simp [wvs_length,ldW_length]
 have G3:=ι (And.intro hw3 (And.intro hr3 (And.intro r64 i64)));have B3:Hid (Below w.heap.size w w3):=ι ((F.out.2.2.2.grown G2.out.2.1 F.out.2.2.2.size (by intro k e; injection e with e; omega)).grown hg3 (by have:=G2.out.2.1.size; have:=F.out.2.2.2.size; omega) (by intro k e; injection e with e; omega));clear hw3 hr3 hg3 hs3 e64 i64 r64;generalize (wvs (ldW b 0)).toArray=zs at *;have A1:=ι (wvs_all sp);have HE:Hid (Value.agg (wvs S).toArray= .agg (wvs sp).toArray):=ι (by rw [HS.out]);generalize (wvs sp).toArray=ws at *;go_wp2_with (first|refine wpList_load_row rfl 285 _ rfl (w.heap.size+2) rfl _ _ _ _ G3.out.1 Tryz.underlying285 rfl G3.out.2.2.2 ?_|refine wpList_store_row rfl 285 _ _ rfl (w.heap.size+1) _ rfl rfl _ _ G3.out.2.1 G3.out.2.2.2 G3.out.2.2.1 A1.out ?_)
 refine bodyPost_ret (v:= .agg ws) (results_cell_row (by rfl) _ _ (w.heap.size+1) 285 ws (0,0) _ rfl (setRow_heap w3 _ _ ws _ _ G3.out.2.1) Tryz.underlying285 rfl G3.out.2.2.2) rfl ⟨by rw [HE.out],?_⟩;exact below_setRow B3.out (by omega) _
theorem u32_signed:IntKind.u32.signed=false:=rfl
theorem u32_max:IntKind.u32.max=4294967295:=rfl
theorem w_notmax (x:UInt32):bits .xor .u32 4294967295 (x.toNat:Int)=((notW x).toNat:Int):=by
 have h:=w_xor 4294967295 x;rw [show ((4294967295:UInt32).toNat:Int)=4294967295 from rfl] at h;rw [h]
 congr 2
attribute [local go_sem] w_or w_xor w_and w_add w_notmax u32_signed u32_max
def kW:List UInt32:= [0x428a2f98,0x71374491,0xb5c0fbcf,0xe9b5dba5,0x3956c25b,0x59f111f1,0x923f82a4,0xab1c5ed5,0xd807aa98,0x12835b01,0x243185be,0x550c7dc3,0x72be5d74,0x80deb1fe,0x9bdc06a7,0xc19bf174,0xe49b69c1,0xefbe4786,0x0fc19dc6,0x240ca1cc,0x2de92c6f,0x4a7484aa,0x5cb0a9dc,0x76f988da,0x983e5152,0xa831c66d,0xb00327c8,0xbf597fc7,0xc6e00bf3,0xd5a79147,0x06ca6351,0x14292967,0x27b70a85,0x2e1b2138,0x4d2c6dfc,0x53380d13,0x650a7354,0x766a0abb,0x81c2c92e,0x92722c85,0xa2bfe8a1,0xa81a664b,0xc24b8b70,0xc76c51a3,0xd192e819,0xd6990624,0xf40e3585,0x106aa070,0x19a4c116,0x1e376c08,0x2748774c,0x34b0bcb5,0x391c0cb3,0x4ed8aa4a,0x5b9cca4f,0x682e6ff3,0x748f82ee,0x78a5636f,0x84c87814,0x8cc70208,0x90befffa,0xa4506ceb,0xbef9a3f7,0xc67178f2]
def firstH:List UInt32:= [0x6a09e667,0xbb67ae85,0x3c6ef372,0xa54ff53a,0x510e527f,0x9b05688c,0x1f83d9ab,0x5be0cd19]
def Tbl (w:World):Prop:=∀ i,i<64→w.cell? ⟨0,i,none⟩=some (.int .u32 ((kW.getD i 0).toNat:Int))
theorem Tbl.pos {w:World} (h:Tbl w):0<w.heap.size:=World.block_lt_of_cell? _ ⟨0,0,none⟩ (h 0 (by omega))
theorem Tbl.below {w w1:World} {B:Nat} (h:Tbl w) (hb:Below B w w1) (hB:0<B):Tbl w1:=fun i hi=>(hb.cell (p:=⟨0,i,none⟩) hB).trans (h i hi)
theorem Tbl.next {w w1:World} (h:Tbl w) (hb:Below w.heap.size w w1):Tbl w1:=h.below hb h.pos
theorem Tbl.grown {w w1:World} {g:Nat} (h:Tbl w) (hb:w.grownBy w1 (some g)) (hg:0<g):Tbl w1:=fun i hi=>(World.cell?_of_block (hb.block 0 h.pos (by intro e; injection e with e; omega))).trans (h i hi)
def oneW (e v5 v6 v7 k x:UInt32):UInt32:=addW (addW (addW (addW v7 (xorW (xorW (rotW e 6) (rotW e 11)) (rotW e 25))) (xorW (andW e v5) (andW (notW e) v6))) k) x
def twoW (a v1 v2:UInt32):UInt32:=addW (xorW (xorW (rotW a 2) (rotW a 13)) (rotW a 22)) (xorW (xorW (andW a v1) (andW a v2)) (andW v1 v2))
def roundW (v:List UInt32) (k x:UInt32):List UInt32:=match v with
 | [v0,v1,v2,v3,v4,v5,v6,v7]=> [addW (oneW v4 v5 v6 v7 k x) (twoW v0 v1 v2),v0,v1,v2,addW v3 (oneW v4 v5 v6 v7 k x),v4,v5,v6]
 |_=> [0,0,0,0,0,0,0,0]
def roundsW (h ws:List UInt32):Nat→List UInt32
 |0=>h
 |i+1=>roundW (roundsW h ws i) (kW.getD i 0) (ws.getD i 0)
theorem eight {l:List UInt32} (h:l.length=8):∃ v0 v1 v2 v3 v4 v5 v6 v7,l= [v0,v1,v2,v3,v4,v5,v6,v7]:=by
 match l,h with
 | [v0,v1,v2,v3,v4,v5,v6,v7],_=>exact ⟨v0,v1,v2,v3,v4,v5,v6,v7,rfl⟩
theorem roundW_length (v:List UInt32) (k x:UInt32):(roundW v k x).length=8:=by
 unfold roundW
 split<;>rfl
theorem roundsW_length (h ws:List UInt32) (hh:h.length=8):∀ i,(roundsW h ws i).length=8
 |0=>hh
 |i+1=>roundW_length _ _ _
structure Rnd (w0:World) (gv gw:Nat) (ws:List UInt32) (v:List UInt32) (w:World):Prop where
 v:Blk w gv 224 (wvs v).toArray
 ws:Blk w gw 285 (wvs ws).toArray
 tbl:Tbl w
 grown:w0.grownBy w (some gv)
 size:w.heap.size=w0.heap.size
theorem Rnd.drew {w0 w:World} {gv gw:Nat} {ws v:List UInt32} (h:Rnd w0 gv gw ws v w):Rnd w0 gv gw ws v w.drew:=
 ⟨h.v,h.ws,h.tbl,⟨h.grown.os,h.grown.tape,h.grown.output,h.grown.size,h.grown.block⟩,h.size⟩
theorem Rnd.cells {w0 w:World} {gv gw:Nat} {ws:List UInt32} {v0 v1 v2 v3 v4 v5 v6 v7:UInt32} (h:Rnd w0 gv gw ws [v0,v1,v2,v3,v4,v5,v6,v7] w):
  w.cell? ⟨gv,0,none⟩=some (.int .u32 (v0.toNat:Int))∧w.cell? ⟨gv,1,none⟩=some (.int .u32 (v1.toNat:Int))∧w.cell? ⟨gv,2,none⟩=some (.int .u32 (v2.toNat:Int))∧w.cell? ⟨gv,3,none⟩=some (.int .u32 (v3.toNat:Int))∧
  w.cell? ⟨gv,4,none⟩=some (.int .u32 (v4.toNat:Int))∧w.cell? ⟨gv,5,none⟩=some (.int .u32 (v5.toNat:Int))∧w.cell? ⟨gv,6,none⟩=some (.int .u32 (v6.toNat:Int))∧w.cell? ⟨gv,7,none⟩=some (.int .u32 (v7.toNat:Int)):=
 ⟨h.v.cell 0,h.v.cell 1,h.v.cell 2,h.v.cell 3,h.v.cell 4,h.v.cell 5,h.v.cell 6,h.v.cell 7⟩
theorem Rnd.set {w0 w:World} {gv gw:Nat} {ws v:List UInt32} (h:Rnd w0 gv gw ws v w) (hgv:0<gv) (hne:gv≠gw) (v':List UInt32):Rnd w0 gv gw ws v' (w.setRow gv (wvs v').toArray) where
 v:=setRow_heap w gv _ _ _ _ h.v
 ws:=(setRow_other w gv gw _ (fun e=>hne e.symm)).trans h.ws
 tbl:=fun i hi=>(World.cell?_of_block (setRow_other w gv 0 _ (by omega))).trans (h.tbl i hi)
 grown:=⟨h.grown.os,h.grown.tape,h.grown.output,by rw [size_setRow]; exact h.grown.size,fun k hk hx=>(setRow_other w gv k _ (fun e=>hx (by rw [e]))).trans (h.grown.block k hk hx)⟩
 size:=by rw [size_setRow]; exact h.size
theorem info_w8:(Tryz.prog.info? 224).map (·.size)=some 8:=by kernel_rfl
theorem block_one (h ws:List UInt32) (hh:h.length=8) (hws:ws.length=64) (w0:World) (gv gw:Nat) (hR:Rnd w0 gv gw ws h w0) (hgv:0<gv) (hne:gv≠gw)
  (Q:Exit→Act→World→Prop) (p2 p3 p4:Value)
  (hQ:∀ ⦃s0 s1 s7 s8 s9 s2 s3 s4 s5 s6 a0 a2 a3 a4 a5 a6 a7 a8 a9 b0 b1 b2 b3 b4 b5 b6 b7 b8 b9 c8 c9 d0 d1 d2 d3 d4 d5 d6 d7 d8 d9 e0 e1 e2 e3 e4 e5 e6 e7 e8 e9 f0 f1 f2 f3 f4 f5 f6 f7 f8 f9 g0 g1 g2 g3 g4 g5 g6 g7 g8 g9 h0 h2 h3 h4 h5 h6 h7 h8 h9 i0 i1 i2 i3 i4 i5 i6 i7 i8 i9 j0 j1 j2 j3 j4 j5 j6 j7 j8 j9 k0 k2 k3 k4:Value⦄ (w2:World),Rnd w0 gv gw ws (roundsW h ws 64) w2→Q (.exit 0) {tmps:=#[s0,s1,p2,p3,p4,.pointer (some ⟨gw,0,none⟩),.pointer (some ⟨gv,0,none⟩),s7,s8,s9,s2,s3,s4,s5,s6,a0,a2,a3,a4,a5,a6,a7,a8,a9,b0,b1,b2,b3,b4,b5,b6,b7,b8,b9,c8,c9,d0,d1,d2,d3,d4,d5,d6,d7,d8,d9,e0,e1,e2,e3,e4,e5,e6,e7,e8,e9,f0,f1,f2,f3,f4,f5,f6,f7,f8,f9,g0,g1,g2,g3,g4,g5,g6,g7,g8,g9,h0,h2,h3,h4,h5,h6,h7,h8,h9,i0,i1,i2,i3,i4,i5,i6,i7,i8,i9,j0,j1,j2,j3,j4,j5,j6,j7,j8,j9,k0,k2,k3,k4],defers:= []} w2)
  (s0 s1 s7 s8 s9 s2 s3 s4 s5 s6 a0 a3 a4 a5 a6 a7 a8 a9 b0 b1 b2 b3 b4 b5 b6 b7 b8 b9 c8 c9 d0 d1 d2 d3 d4 d5 d6 d7 d8 d9 e0 e1 e2 e3 e4 e5 e6 e7 e8 e9 f0 f1 f2 f3 f4 f5 f6 f7 f8 f9 g0 g1 g2 g3 g4 g5 g6 g7 g8 g9 h0 h2 h3 h4 h5 h6 h7 h8 h9 i0 i1 i2 i3 i4 i5 i6 i7 i8 i9 j0 j1 j2 j3 j4 j5 j6 j7 j8 j9 k0 k2 k3 k4:Value):
  Code.wp Tryz.prog (.loop (loopAt Tryz.f205 0)) Q {tmps:=#[s0,s1,p2,p3,p4,.pointer (some ⟨gw,0,none⟩),.pointer (some ⟨gv,0,none⟩),s7,s8,s9,s2,s3,s4,s5,s6,a0,.int .i64 0,a3,a4,a5,a6,a7,a8,a9,b0,b1,b2,b3,b4,b5,b6,b7,b8,b9,c8,c9,d0,d1,d2,d3,d4,d5,d6,d7,d8,d9,e0,e1,e2,e3,e4,e5,e6,e7,e8,e9,f0,f1,f2,f3,f4,f5,f6,f7,f8,f9,g0,g1,g2,g3,g4,g5,g6,g7,g8,g9,h0,h2,h3,h4,h5,h6,h7,h8,h9,i0,i1,i2,i3,i4,i5,i6,i7,i8,i9,j0,j1,j2,j3,j4,j5,j6,j7,j8,j9,k0,k2,k3,k4],defers:= []} w0:=by
 have HQ:=ι hQ;clear hQ;refine wp_loop_ghost_k (fun k a wr=>∀ Φ:Act→Prop,(∀ ⦃s0 s1 s7 s8 s9 s2 s3 s4 s5 s6 a0 a3 a4 a5 a6 a7 a8 a9 b0 b1 b2 b3 b4 b5 b6 b7 b8 b9 c8 c9 d0 d1 d2 d3 d4 d5 d6 d7 d8 d9 e0 e1 e2 e3 e4 e5 e6 e7 e8 e9 f0 f1 f2 f3 f4 f5 f6 f7 f8 f9 g0 g1 g2 g3 g4 g5 g6 g7 g8 g9 h0 h2 h3 h4 h5 h6 h7 h8 h9 i0 i1 i2 i3 i4 i5 i6 i7 i8 i9 j0 j1 j2 j3 j4 j5 j6 j7 j8 j9 k0 k2 k3 k4:Value⦄ (i:Nat),(i+k=64∧Rnd w0 gv gw ws (roundsW h ws i) wr)→Φ {tmps:=#[s0,s1,p2,p3,p4,.pointer (some ⟨gw,0,none⟩),.pointer (some ⟨gv,0,none⟩),s7,s8,s9,s2,s3,s4,s5,s6,a0,.int .i64 i,a3,a4,a5,a6,a7,a8,a9,b0,b1,b2,b3,b4,b5,b6,b7,b8,b9,c8,c9,d0,d1,d2,d3,d4,d5,d6,d7,d8,d9,e0,e1,e2,e3,e4,e5,e6,e7,e8,e9,f0,f1,f2,f3,f4,f5,f6,f7,f8,f9,g0,g1,g2,g3,g4,g5,g6,g7,g8,g9,h0,h2,h3,h4,h5,h6,h7,h8,h9,i0,i1,i2,i3,i4,i5,i6,i7,i8,i9,j0,j1,j2,j3,j4,j5,j6,j7,j8,j9,k0,k2,k3,k4],defers:= []})→Φ a) (64) ?_ ?_
 ·refine fun Φ hΦ=>hΦ (0) ?_;exact ⟨by omega,hR⟩
 ·intro k1 a1 wr1 hI1 J1 K1 hJ1 hK1;refine hI1 (fun a=>Code.wp _ _ _ a _) ?_;clear hI1 a1;iterate 103 (intro _)
  intro i hrel
  show Code.wp _ _ _ _ _
  conv=>arg 2; whnf
  obtain ⟨h1,hr⟩:=hrel;by_cases hi:i<64
  ·obtain ⟨v0,v1,v2,v3,v4,v5,v6,v7,hv⟩:=eight (roundsW_length h ws hh i);have E:Hid (roundsW h ws (i+1)= [addW (oneW v4 v5 v6 v7 (kW.getD i 0) (ws.getD i 0)) (twoW v0 v1 v2),v0,v1,v2,addW v3 (oneW v4 v5 v6 v7 (kW.getD i 0) (ws.getD i 0)),v4,v5,v6]):=ι (by rw [roundsW,hv]; rfl);rw [hv] at hr;have H1:=ι h1;have hi1:(i:Int)<64:=by omega
   have HW:Hid (∀ w',Rnd w0 gv gw ws [v0,v1,v2,v3,v4,v5,v6,v7] w'→w'.cell? ⟨gw,i,none⟩=some (.int .u32 ((ws.getD i 0).toNat:Int))∧w'.cell? ⟨0,i,none⟩=some (.int .u32 ((kW.getD i 0).toNat:Int))):=ι (fun w' hw=>⟨(hw.ws.cell i).trans (wvs_at (by omega)),hw.tbl i hi⟩);clear hv h1 hR;generalize ws.getD i 0=x at *;generalize kW.getD i 0=kk at *;obtain ⟨c0,c1,c2,c3,c4,c5,c6,c7⟩:=hr.cells;have R0:=ι hr;clear hr;go_wp2
   refine wp_region_still_lit (by kernel_rfl) (by kernel_rfl) ?_
   repeat still_step
   refine wpStill_nil ?_;have R1:=ι (R0.out.drew);have Z1:=HW.out _ R1.out;clear R0 c0 c1 c2 c3 c4 c5 c6 c7
   show Exit.then _ _ Exit.normal _ wr1.drew;generalize wr1.drew=w1 at *;obtain ⟨c0,c1,c2,c3,c4,c5,c6,c7⟩:=R1.out.cells;obtain ⟨cx,ck⟩:=Z1;go_wp2
   refine wp_region_still_lit (by kernel_rfl) (by kernel_rfl) ?_
   repeat still_step
   still_call (sha_rot6 _ _)
   repeat still_step
   still_call (sha_rot11 _ _)
   repeat still_step
   still_call (sha_rot25 _ _)
   repeat still_step
   refine wpStill_nil ?_;have R2:=ι (R1.out.drew);have Z1:=HW.out _ R2.out;clear R1 c0 c1 c2 c3 c4 c5 c6 c7
   show Exit.then _ _ Exit.normal _ w1.drew;generalize w1.drew=w2 at *;obtain ⟨c0,c1,c2,c3,c4,c5,c6,c7⟩:=R2.out.cells;obtain ⟨cx,ck⟩:=Z1;go_wp2
   refine wp_region_still_lit (by kernel_rfl) (by kernel_rfl) ?_
   repeat still_step
   still_call (sha_rot2 _ _)
   repeat still_step
   still_call (sha_rot13 _ _)
   repeat still_step
   still_call (sha_rot22 _ _)
   repeat still_step
   refine wpStill_nil ?_;have R3:=ι (R2.out.drew);have Z1:=HW.out _ R3.out;clear R2 c0 c1 c2 c3 c4 c5 c6 c7
   show Exit.then _ _ Exit.normal _ w2.drew;generalize w2.drew=w3 at *;obtain ⟨c0,c1,c2,c3,c4,c5,c6,c7⟩:=R3.out.cells;obtain ⟨cx,ck⟩:=Z1;have A8:Hid ((Tryz.prog.info? 224).map (·.size)=some (wvs [addW (oneW v4 v5 v6 v7 kk x) (twoW v0 v1 v2),v0,v1,v2,addW v3 (oneW v4 v5 v6 v7 kk x),v4,v5,v6]).toArray.size∧(wvs [v0,v1,v2,v3,v4,v5,v6,v7]).toArray.size=(wvs [addW (oneW v4 v5 v6 v7 kk x) (twoW v0 v1 v2),v0,v1,v2,addW v3 (oneW v4 v5 v6 v7 kk x),v4,v5,v6]).toArray.size):=ι ⟨info_w8,rfl⟩;go_wp2_with (refine wpList_store_row rfl 224 _ _ rfl gv (wvs [addW (oneW v4 v5 v6 v7 kk x) (twoW v0 v1 v2),v0,v1,v2,addW v3 (oneW v4 v5 v6 v7 kk x),v4,v5,v6]).toArray rfl rfl _ _ R3.out.v A8.out.1 A8.out.2 (wvs_all _) ?_)
   refine Handed.intro (64 - (i+1)) ?_ (hJ1 _ _ _ (fun Φ hΦ=>hΦ (i+1) ?_))
   ·have:=H1.out
    show 64 - (i+1)<k1;omega
   ·have h1:=H1.out;refine ⟨by omega,?_⟩;rw [E.out];exact R3.out.set hgv hne _
  ·have e:i=64:=by omega
   subst e;have H:=ι hr;clear hr h1;go_wp2
   exact HQ.out _ H.out
end
section
open Go.RowKit Go.Instr
attribute [local go_sem] w_add
def plusW (v h:List UInt32):Nat→List UInt32
 |0=>v
 |i+1=>(plusW v h i).set i (addW ((plusW v h i).getD i 0) (h.getD i 0))
theorem plusW_length (v h:List UInt32) (hv:v.length=8):∀ i,(plusW v h i).length=8
 |0=>hv
 |i+1=>by rw [plusW,List.length_set,plusW_length v h hv i]
def blockW (h:List UInt32) (b:List UInt8):List UInt32:=plusW (roundsW h (spreadW b) 64) h 8
theorem blockW_length (h:List UInt32) (b:List UInt8) (hh:h.length=8):(blockW h b).length=8:=plusW_length _ _ (roundsW_length _ _ hh 64) 8
theorem block_two (h v:List UInt32) (hh:h.length=8) (hv:v.length=8) (w0:World) (gh gv:Nat) (hH:Blk w0 gh 224 (wvs h).toArray) (hV:Blk w0 gv 224 (wvs v).toArray) (hne:gh≠gv)
  (Q:Exit→Act→World→Prop) (p3 p4 p5:Value)
  (hQ:∀ ⦃s0 s1 s7 s8 s9 s2 s3 s4 s5 s6 a0 a3 a4 a5 a6 a7 a8 a9 b0 b1 b2 b3 b4 b5 b6 b7 b8 b9 c0 c1 c2 c3 c4 c5 c6 c7 c8 c9 d0 d1 d2 d3 d4 d5 d6 d7 d8 d9 e0 e1 e2 e3 e4 e5 e6 e7 e8 e9 f1 f2 f3 f4 f5 f6 f7 f8 f9 g0 g1 g2 g3 g4 g5 g6 g7 g8 g9 h0 h2 h3 h4 h5 h6 h7 h8 h9 i0 i1 i2 i3 i4 i5 i6 i7 i8 i9 j0 j1 j2 j3 j4 j5 j6 j7:Value⦄ (w2:World),Blk w2 gv 224 (wvs (plusW v h 8)).toArray→w0.grownBy w2 (some gv)→w2.heap.size=w0.heap.size→Q (.exit 2) {tmps:=#[s0,s1,.pointer (some ⟨gh,0,none⟩),p3,p4,p5,.pointer (some ⟨gv,0,none⟩),s7,s8,s9,s2,s3,s4,s5,s6,a0,a3,a4,a5,a6,a7,a8,a9,b0,b1,b2,b3,b4,b5,b6,b7,b8,b9,c0,c1,c2,c3,c4,c5,c6,c7,c8,c9,d0,d1,d2,d3,d4,d5,d6,d7,d8,d9,e0,e1,e2,e3,e4,e5,e6,e7,e8,e9,f1,f2,f3,f4,f5,f6,f7,f8,f9,g0,g1,g2,g3,g4,g5,g6,g7,g8,g9,h0,h2,h3,h4,h5,h6,h7,h8,h9,i0,i1,i2,i3,i4,i5,i6,i7,i8,i9,j0,j1,j2,j3,j4,j5,j6,j7],defers:= []} w2)
  (s0 s1 s7 s8 s9 s2 s3 s4 s5 s6 a0 a3 a4 a5 a6 a7 a8 a9 b0 b1 b2 b3 b4 b5 b6 b7 b8 b9 c0 c1 c2 c3 c4 c5 c6 c7 c8 c9 d0 d1 d2 d3 d4 d5 d6 d7 d8 d9 e0 e1 e2 e3 e4 e5 e6 e7 e8 e9 f1 f2 f3 f4 f5 f6 f7 f8 f9 g0 g1 g2 g3 g4 g5 g6 g7 g8 g9 h0 h2 h3 h4 h5 h6 h7 h8 h9 i0 i1 i2 i3 i4 i6 i7 i8 i9 j0 j1 j2 j3 j4 j5 j6 j7:Value):
  Code.wp Tryz.prog (.loop (loopAt Tryz.f205 1)) Q {tmps:=#[s0,s1,.pointer (some ⟨gh,0,none⟩),p3,p4,p5,.pointer (some ⟨gv,0,none⟩),s7,s8,s9,s2,s3,s4,s5,s6,a0,a3,a4,a5,a6,a7,a8,a9,b0,b1,b2,b3,b4,b5,b6,b7,b8,b9,c0,c1,c2,c3,c4,c5,c6,c7,c8,c9,d0,d1,d2,d3,d4,d5,d6,d7,d8,d9,e0,e1,e2,e3,e4,e5,e6,e7,e8,e9,f1,f2,f3,f4,f5,f6,f7,f8,f9,g0,g1,g2,g3,g4,g5,g6,g7,g8,g9,h0,h2,h3,h4,h5,h6,h7,h8,h9,i0,i1,i2,i3,i4,.int .i64 0,i6,i7,i8,i9,j0,j1,j2,j3,j4,j5,j6,j7],defers:= []} w0:=by
 have HQ:=ι hQ;clear hQ;refine wp_loop_ghost_k (fun k a wr=>∀ Φ:Act→Prop,(∀ ⦃s0 s1 s7 s8 s9 s2 s3 s4 s5 s6 a0 a3 a4 a5 a6 a7 a8 a9 b0 b1 b2 b3 b4 b5 b6 b7 b8 b9 c0 c1 c2 c3 c4 c5 c6 c7 c8 c9 d0 d1 d2 d3 d4 d5 d6 d7 d8 d9 e0 e1 e2 e3 e4 e5 e6 e7 e8 e9 f1 f2 f3 f4 f5 f6 f7 f8 f9 g0 g1 g2 g3 g4 g5 g6 g7 g8 g9 h0 h2 h3 h4 h5 h6 h7 h8 h9 i0 i1 i2 i3 i4 i6 i7 i8 i9 j0 j1 j2 j3 j4 j5 j6 j7:Value⦄ (i:Nat),(i+k=8∧Blk wr gv 224 (wvs (plusW v h i)).toArray∧w0.grownBy wr (some gv)∧wr.heap.size=w0.heap.size)→Φ {tmps:=#[s0,s1,.pointer (some ⟨gh,0,none⟩),p3,p4,p5,.pointer (some ⟨gv,0,none⟩),s7,s8,s9,s2,s3,s4,s5,s6,a0,a3,a4,a5,a6,a7,a8,a9,b0,b1,b2,b3,b4,b5,b6,b7,b8,b9,c0,c1,c2,c3,c4,c5,c6,c7,c8,c9,d0,d1,d2,d3,d4,d5,d6,d7,d8,d9,e0,e1,e2,e3,e4,e5,e6,e7,e8,e9,f1,f2,f3,f4,f5,f6,f7,f8,f9,g0,g1,g2,g3,g4,g5,g6,g7,g8,g9,h0,h2,h3,h4,h5,h6,h7,h8,h9,i0,i1,i2,i3,i4,.int .i64 i,i6,i7,i8,i9,j0,j1,j2,j3,j4,j5,j6,j7],defers:= []})→Φ a) (8) ?_ ?_
 ·refine fun Φ hΦ=>hΦ (0) ?_;exact ⟨by omega,hV,World.grownBy.refl _ _,rfl⟩
 ·intro k1 a1 wr1 hI1 J1 K1 hJ1 hK1;refine hI1 (fun a=>Code.wp _ _ _ a _) ?_;clear hI1 a1;iterate 103 (intro _)
  intro i hrel
  show Code.wp _ _ _ _ _
  conv=>arg 2; whnf
  obtain ⟨h1,hw,hg,hs⟩:=hrel;by_cases hi:i<8
  ·have hlen:=plusW_length v h hv i;have hh1:=hH.grown hg (by intro e; injection e with e; exact hne e);have q0:wr1.cell? ⟨gv,i,none⟩=some (.int .u32 (((plusW v h i).getD i 0).toNat:Int)):=(hw.cell _).trans (wvs_at (by omega));have q1:wr1.cell? ⟨gh,i,none⟩=some (.int .u32 ((h.getD i 0).toNat:Int)):=(hh1.cell _).trans (wvs_at (by omega));have f0:wr1.frozen? ⟨gv,i,none⟩=false:=hw.frozen _;have hi1:(i:Int)<8:=by omega
   have E:Hid (plusW v h (i+1)=(plusW v h i).set i (addW ((plusW v h i).getD i 0) (h.getD i 0))):=ι rfl;have H:=ι (And.intro h1 (And.intro hw (And.intro hg hs)));generalize (plusW v h i).getD i 0=a1 at *;generalize h.getD i 0=a2 at *;clear h1 hw hg hs hlen hh1;go_wp2
   go_still_tail 8,(by kernel_rfl)
   go_wp2
   refine Handed.intro (8 - (i+1)) ?_ (hJ1 _ _ _ (fun Φ hΦ=>hΦ (i+1) ?_))
   ·have:=H.out.1
    show 8 - (i+1)<k1;omega
   ·obtain ⟨h1,hw,hg,hs⟩:=H.out;have e:=E.out;have hw2:=hw.set_ i (.int .u32 ((addW a1 a2).toNat:Int));rw [wvs_set,←e] at hw2;refine ⟨by omega,hw2.drew,grown_set hg _ _,by simp [hs]⟩
  ·have e:i=8:=by omega
   subst e;have H:=ι (And.intro hw (And.intro hg hs));clear hw hg hs h1;go_wp2
   exact HQ.out _ H.out.1 H.out.2.1 H.out.2.2
end
section
open Go.RowKit Go.Instr
theorem three_new (w:World) (c1 c2 c3:Array Value) (t1 t2 t3:TypeId):Blk (((w.alloc (.cells c1 t1)).alloc (.cells c2 t2)).alloc (.cells c3 t3)) w.heap.size t1 c1∧Blk (((w.alloc (.cells c1 t1)).alloc (.cells c2 t2)).alloc (.cells c3 t3)) (w.heap.size+1) t2 c2∧Blk (((w.alloc (.cells c1 t1)).alloc (.cells c2 t2)).alloc (.cells c3 t3)) (w.heap.size+2) t3 c3∧Below w.heap.size w (((w.alloc (.cells c1 t1)).alloc (.cells c2 t2)).alloc (.cells c3 t3)):=by
 refine ⟨((Blk.new w _ _).alloc _).alloc _,?_,?_,by go_grown⟩
 ·have:=Blk.new (w.alloc (.cells c1 t1)) t2 c2
  rw [World.size_alloc] at this;exact this.alloc _
 ·have:=Blk.new ((w.alloc (.cells c1 t1)).alloc (.cells c2 t2)) t3 c3
  rw [World.size_alloc,World.size_alloc] at this;exact this
theorem info_b64:(Tryz.prog.info? 226).map (·.size)=some 64:=by kernel_rfl
theorem size_of8 {l:List UInt32} (h:l.length=8):(Tryz.prog.info? 224).map (·.size)=some (wvs l).toArray.size:=by rw [List.size_toArray,wvs_length,h]; exact info_w8
theorem size_of64 {l:List UInt32} (h:l.length=64):(Tryz.prog.info? 285).map (·.size)=some (wvs l).toArray.size:=by rw [List.size_toArray,wvs_length,h]; exact info_w64
theorem size_ofb {l:List UInt8} (h:l.length=64):(Tryz.prog.info? 226).map (·.size)=some (bvals l).toArray.size:=by rw [List.size_toArray,bvals_length,h]; exact info_b64
theorem spreadW_length (b:List UInt8):(spreadW b).length=64:=exW_length _ (ldW_length b 16) 48
theorem sha_Block (h:List UInt32) (hh:h.length=8) (b:List UInt8) (hb:b.length=64) (w:World) (hT:Tbl w):
  Calls Tryz.prog 205 #[.agg (wvs h).toArray,.agg (bvals b).toArray] w fun e w'=>e= .returned (.agg (wvs (blockW h b)).toArray)∧Below w.heap.size w w':=by
 have sp64:=spreadW_length b;have HS:Hid (blockW h b=plusW (roundsW h (spreadW b) 64) h 8):=ι rfl;generalize blockW h b=S at HS ⊢;have hsp:=sha_spread b hb;generalize spreadW b=sp at *;have I8:=ι (size_of8 hh);have IB:=ι (size_ofb hb);have I64:=ι (size_of64 sp64);have A64:=ι (wvs_all sp);have A8:=ι (wvs_all h);have HSP:=ι hsp;have HT:=ι hT;have HH:=ι hh;have H64:=ι sp64;have Hpos:=hT.pos;clear hsp hT hh hb sp64;go_enter Tryz.func205,Tryz.ntmps205
 go_upto_region 1 with fail
 obtain ⟨f1,f2,f3,f4⟩:=three_new w (wvs h).toArray (bvals b).toArray #[ω,ω,ω,ω,ω,ω,ω,ω] 224 226 224;have F0:=ι (And.intro f1 (And.intro f2 (And.intro f3 f4)));clear f1 f2 f3 f4;generalize (((w.alloc (.cells (wvs h).toArray 224)).alloc (.cells (bvals b).toArray 226)).alloc (.cells #[ω,ω,ω,ω,ω,ω,ω,ω] 224))=W0 at F0 ⊢;go_wp2_with (refine wpList_load_row rfl 226 _ rfl (w.heap.size+1) rfl _ _ _ _ F0.out.2.1 Tryz.underlying226 rfl IB.out ?_)
 refine (HSP.out W0).mono ?_;rintro e w1 ⟨rfl,hb1⟩;have hz:Hid (W0.heap.size≤w1.heap.size∧w.heap.size+2<W0.heap.size):=ι ⟨hb1.size,F0.out.2.2.1.lt⟩;have F1:Hid (Blk w1 w.heap.size 224 (wvs h).toArray∧Blk w1 (w.heap.size+2) 224 #[ω,ω,ω,ω,ω,ω,ω,ω]∧Below w.heap.size w w1∧w.heap.size+2<w1.heap.size):=ι (by
  obtain ⟨f1,f2,f3,f4⟩:=F0.out;exact ⟨f1.below hb1 f1.lt,f3.below hb1 f3.lt,f4.trans (hb1.mono (by have:=f3.lt; omega)),by have:=f3.lt; have:=hb1.size; omega⟩)
 clear F0 hz hb1;have Z64:Hid ((#[.int .u32 0,.int .u32 0,.int .u32 0,.int .u32 0,.int .u32 0,.int .u32 0,.int .u32 0,.int .u32 0,.int .u32 0,.int .u32 0,.int .u32 0,.int .u32 0,.int .u32 0,.int .u32 0,.int .u32 0,.int .u32 0,.int .u32 0,.int .u32 0,.int .u32 0,.int .u32 0,.int .u32 0,.int .u32 0,.int .u32 0,.int .u32 0,.int .u32 0,.int .u32 0,.int .u32 0,.int .u32 0,.int .u32 0,.int .u32 0,.int .u32 0,.int .u32 0,.int .u32 0,.int .u32 0,.int .u32 0,.int .u32 0,.int .u32 0,.int .u32 0,.int .u32 0,.int .u32 0,.int .u32 0,.int .u32 0,.int .u32 0,.int .u32 0,.int .u32 0,.int .u32 0,.int .u32 0,.int .u32 0,.int .u32 0,.int .u32 0,.int .u32 0,.int .u32 0,.int .u32 0,.int .u32 0,.int .u32 0,.int .u32 0,.int .u32 0,.int .u32 0,.int .u32 0,.int .u32 0,.int .u32 0,.int .u32 0,.int .u32 0,.int .u32 0]:Array Value).size=(wvs sp).toArray.size):=ι (show (64:Nat)=(wvs sp).toArray.size by rw [List.size_toArray,wvs_length,H64.out]);go_upto_region 2 with (refine wpList_store_row rfl 285 _ _ rfl w1.heap.size _ rfl rfl _ _ (heap_alloc_new w1 _) I64.out Z64.out A64.out ?_)
 rw [World.setRow_alloc_new];have F2:Hid (Blk (w1.alloc (.cells (wvs sp).toArray 285)) w.heap.size 224 (wvs h).toArray∧Blk (w1.alloc (.cells (wvs sp).toArray 285)) (w.heap.size+2) 224 #[ω,ω,ω,ω,ω,ω,ω,ω]∧Blk (w1.alloc (.cells (wvs sp).toArray 285)) w1.heap.size 285 (wvs sp).toArray∧Below w.heap.size w (w1.alloc (.cells (wvs sp).toArray 285))∧(w1.alloc (.cells (wvs sp).toArray 285)).heap.size=w1.heap.size+1):=ι (by
  obtain ⟨f1,f2,f3,f4⟩:=F1.out;exact ⟨f1.alloc _,f2.alloc _,Blk.new _ _ _,f3.alloc (by have:=f3.size; exact this) _,World.size_alloc _ _⟩)
 generalize w1.alloc (.cells (wvs sp).toArray 285)=W2 at F2 ⊢;have Z8':Hid ((#[ω,ω,ω,ω,ω,ω,ω,ω]:Array Value).size=(wvs h).toArray.size):=ι (show (8:Nat)=(wvs h).toArray.size by rw [List.size_toArray,wvs_length,HH.out]);go_upto_region 3 with (first|refine wpList_load_row rfl 224 _ rfl w.heap.size rfl _ _ _ _ F2.out.1 Tryz.underlying224 rfl I8.out ?_|refine wpList_store_row rfl 224 _ _ rfl W2.heap.size _ rfl rfl _ _ (heap_alloc_new W2 _) I8.out Z8'.out A8.out ?_)
 rw [World.setRow_alloc_new];have F3:Hid (Blk (W2.alloc (.cells (wvs h).toArray 224)) w.heap.size 224 (wvs h).toArray∧Blk (W2.alloc (.cells (wvs h).toArray 224)) (w.heap.size+2) 224 #[ω,ω,ω,ω,ω,ω,ω,ω]∧Blk (W2.alloc (.cells (wvs h).toArray 224)) w1.heap.size 285 (wvs sp).toArray∧Blk (W2.alloc (.cells (wvs h).toArray 224)) W2.heap.size 224 (wvs h).toArray∧Below w.heap.size w (W2.alloc (.cells (wvs h).toArray 224))∧w1.heap.size<W2.heap.size∧w.heap.size+2<w1.heap.size):=ι (by
  obtain ⟨f1,f2,f3,f4,f5⟩:=F2.out;exact ⟨f1.alloc _,f2.alloc _,f3.alloc _,Blk.new _ _ _,f4.alloc (by have:=f4.size; exact this) _,by omega,F1.out.2.2.2⟩)
 generalize W2.alloc (.cells (wvs h).toArray 224)=W3 at F3 ⊢;generalize W2.heap.size=gv at *;generalize w1.heap.size=gw at *;clear F1 F2 Z64;go_wp2_with fail
 refine block_one h sp HH.out H64.out W3 gv gw ⟨F3.out.2.2.2.1,F3.out.2.2.1,HT.out.below F3.out.2.2.2.2.1 Hpos,World.grownBy.refl _ _,rfl⟩ (by have:=F3.out.2.2.2.2.2; omega) (by have:=F3.out.2.2.2.2.2; omega) _ _ _ _ ?_ _ _ _ _ _ _ _ _ _ _ _ _ _ _ _ _ _ _ _ _ _ _ _ _ _ _ _ _ _ _ _ _ _ _ _ _ _ _ _ _ _ _ _ _ _ _ _ _ _ _ _ _ _ _ _ _ _ _ _ _ _ _ _ _ _ _ _ _ _ _ _ _ _ _ _ _ _ _ _ _ _ _ _ _ _ _ _ _ _ _ _ _ _ _ _ _ _ _ _ _ _ _ _;intro s0 s1 s7 s8 s9 s10 s11 s12 s13 s14 s15 s16 s17 s18 s19 s20 s21 s22 s23 s24 s25 s26 s27 s28 s29 s30 s31 s32 s33 s34 s35 s36 s37 s38 s39 s40 s41 s42 s43 s44 s45 s46 s47 s48 s49 s50 s51 s52 s53 s54 s55 s56 s57 s58 s59 s60 s61 s62 s63 s64 s65 s66 s67 s68 s69 s70 s71 s72 s73 s74 s75 s76 s77 s78 s79 s80 s81 s82 s83 s84 s85 s86 s87 s88 s89 s90 s91 s92 s93 s94 s95 s96 s97 s98 s99 s100 s101 s102 s103 s104 s105 s106 s107 s108 w4 hr4;have F4:Hid (Blk w4 w.heap.size 224 (wvs h).toArray∧Blk w4 (w.heap.size+2) 224 #[ω,ω,ω,ω,ω,ω,ω,ω]∧Blk w4 gv 224 (wvs (roundsW h sp 64)).toArray∧Below w.heap.size w w4∧w.heap.size+2<gv):=ι (by
  obtain ⟨f1,f2,f3,f4,f5,f6,f7⟩:=F3.out;exact ⟨f1.grown hr4.grown (by intro e; injection e with e; omega),f2.grown hr4.grown (by intro e; injection e with e; omega),hr4.v,f5.grown hr4.grown f5.size (by intro k e; injection e with e; omega),by omega⟩)
 have hrl:=ι (roundsW_length h sp HH.out 64);clear hr4 F3;generalize roundsW h sp 64=v at *;go_wp2_with fail
 refine block_two h v HH.out hrl.out w4 w.heap.size gv F4.out.1 F4.out.2.2.1 (by have:=F4.out.2.2.2.2; omega) _ _ _ _ ?_ _ _ _ _ _ _ _ _ _ _ _ _ _ _ _ _ _ _ _ _ _ _ _ _ _ _ _ _ _ _ _ _ _ _ _ _ _ _ _ _ _ _ _ _ _ _ _ _ _ _ _ _ _ _ _ _ _ _ _ _ _ _ _ _ _ _ _ _ _ _ _ _ _ _ _ _ _ _ _ _ _ _ _ _ _ _ _ _ _ _ _ _ _ _ _ _ _ _ _ _ _ _ _;intro s0 s1 s7 s8 s9 s10 s11 s12 s13 s14 s15 s16 s17 s18 s19 s20 s21 s22 s23 s24 s25 s26 s27 s28 s29 s30 s31 s32 s33 s34 s35 s36 s37 s38 s39 s40 s41 s42 s43 s44 s45 s46 s47 s48 s49 s50 s51 s52 s53 s54 s55 s56 s57 s58 s59 s60 s61 s62 s63 s64 s65 s66 s67 s68 s69 s70 s71 s72 s73 s74 s75 s76 s77 s78 s79 s80 s81 s82 s83 s84 s85 s86 s87 s88 s89 s90 s91 s92 s93 s94 s95 s96 s97 s98 s99 s100 s101 s102 s103 s104 s105 s106 s107 s108 w5 hv5 hg5 hs5;have F5:Hid (Blk w5 (w.heap.size+2) 224 #[ω,ω,ω,ω,ω,ω,ω,ω]∧Blk w5 gv 224 (wvs (plusW v h 8)).toArray∧Below w.heap.size w w5):=ι (by
  obtain ⟨f1,f2,f3,f4,f5⟩:=F4.out;exact ⟨f2.grown hg5 (by intro e; injection e with e; omega),hv5,f4.grown hg5 f4.size (by intro k e; injection e with e; omega)⟩)
 have hpl:=ι (plusW_length v h hrl.out 8);clear hv5 hg5 hs5 F4 Z8';generalize plusW v h 8=u at *;have IU:=ι (size_of8 hpl.out);have AU:=ι (wvs_all u);have ZU:Hid ((#[ω,ω,ω,ω,ω,ω,ω,ω]:Array Value).size=(wvs u).toArray.size):=ι (show (8:Nat)=(wvs u).toArray.size by rw [List.size_toArray,wvs_length,hpl.out]);have HE:Hid (Value.agg (wvs S).toArray= .agg (wvs u).toArray):=ι (by rw [HS.out]);generalize (wvs u).toArray=us at *;clear HS hpl hrl I8 IB I64 A64 A8 HSP HT HH H64;go_wp2_with (first|refine wpList_load_row rfl 224 _ rfl gv rfl _ _ _ _ F5.out.2.1 Tryz.underlying224 rfl IU.out ?_|refine wpList_store_row rfl 224 _ _ rfl (w.heap.size+2) _ rfl rfl _ _ F5.out.1 IU.out ZU.out AU.out ?_)
 refine bodyPost_ret (v:= .agg us) (results_cell_row (by rfl) _ _ (w.heap.size+2) 224 us (0,0) _ rfl (setRow_heap w5 _ _ us _ _ F5.out.1) Tryz.underlying224 rfl IU.out) rfl ⟨by rw [HE.out],?_⟩;exact below_setRow F5.out.2.2 (by omega) _
end
section
open Go.RowKit Go.Instr
attribute [local go_sem] w_shr8 w_shr16 w_shr24 w_toB
theorem firstH_wvs:(wvs firstH).toArray=#[.int .u32 1779033703,.int .u32 3144134277,.int .u32 1013904242,.int .u32 2773480762,.int .u32 1359893119,.int .u32 2600822924,.int .u32 528734635,.int .u32 1541459225]:=rfl
theorem sha_First (w:World):
  Calls Tryz.prog 185 #[] w fun e w'=>e= .returned (.agg (wvs firstH).toArray)∧Below w.heap.size w w':=by
 rw [firstH_wvs];go_enter Tryz.func185,Tryz.ntmps185
 go_wp2
 exact bodyPost_ret (v:= .agg #[.int .u32 1779033703,.int .u32 3144134277,.int .u32 1013904242,.int .u32 2773480762,.int .u32 1359893119,.int .u32 2600822924,.int .u32 528734635,.int .u32 1541459225]) (results_cell_row (by rfl) _ _ w.heap.size 224 _ (0,0) _ rfl (heap_alloc_new w _) Tryz.underlying224 rfl (by exact info_w8)) rfl ⟨rfl,by go_grown⟩
def tdW (h:List UInt32):Nat→List UInt8
 |0=>List.replicate 32 0
 |i+1=>((((tdW h i).set (4*i) (toB (shrW (h.getD i 0) 24))).set (4*i+1) (toB (shrW (h.getD i 0) 16))).set (4*i+2) (toB (shrW (h.getD i 0) 8))).set (4*i+3) (toB (h.getD i 0))
theorem tdW_length (h:List UInt32):∀ i,(tdW h i).length=32
 |0=>rfl
 |i+1=>by simp only [tdW,List.length_set,tdW_length h i]
theorem bvals_set (l:List UInt8) (i:Nat) (x:UInt8):(bvals l).toArray.setIfInBounds i (.int .u8 (x.toNat:Int))=(bvals (l.set i x)).toArray:=by
 simp [bvals,List.map_set]
theorem run_index_w8 (h:List UInt32) (hh:h.length=8) (i:Nat) (hi:i<8) (w:World):(Instr.index 224 (.agg (wvs h).toArray) (.int .i64 (i:Int))).run Tryz.prog w= .ok (.int .u32 ((h.getD i 0).toNat:Int)) w:=by
 obtain ⟨v0,v1,v2,v3,v4,v5,v6,v7,rfl⟩:=eight hh;have a0:=Tryz.isAgg223;have z0:=Tryz.sizeOf223;have hc:i=0∨i=1∨i=2∨i=3∨i=4∨i=5∨i=6∨i=7:=by omega
 rcases hc with rfl|rfl|rfl|rfl|rfl|rfl|rfl|rfl<;>simp [Instr.index,asIntOf,run_underlying Tryz.underlying224,part,a0,z0,wvs,wv]
theorem grown_set0 {w w':World} {g:Nat} (h:w.grownBy w' (some g)) (i:Nat) (v:Value):w.grownBy (w'.setCell ⟨g,i,none⟩ v) (some g):=
 ⟨h.os,h.tape,h.output,by rw [World.size_setCell]; exact h.size,fun k hk hne=>(Below.heap_setCell w' ⟨g,i,none⟩ v k (fun e=>hne (by rw [e]))).trans (h.block k hk hne)⟩
theorem told_loop (h:List UInt32) (hh:h.length=8) (w0:World) (gb:Nat) (hB:Blk w0 gb 286 (bvals (tdW h 0)).toArray)
  (Q:Exit→Act→World→Prop) (p1:Value)
  (hQ:∀ ⦃s0 s2 s4 s5 s7 s8 s9 s1 s3 s6 a0 a2 a3 a4 a5 a6 a7 a8 a9 b0 b1 b2 b3 b4 b5 b6 b7 b8 b9 c4 c5 c6 c7 c8 c9 d0 d1:Value⦄ (w2:World),Blk w2 gb 286 (bvals (tdW h 8)).toArray→w0.grownBy w2 (some gb)→w2.heap.size=w0.heap.size→Q (.exit 0) {tmps:=#[s0,p1,s2,.pointer (some ⟨gb,0,none⟩),s4,s5,.agg (wvs h).toArray,s7,s8,s9,s1,s3,s6,a0,a2,a3,a4,a5,a6,a7,a8,a9,b0,b1,b2,b3,b4,b5,b6,b7,b8,b9,c4,c5,c6,c7,c8,c9,d0,d1],defers:= []} w2)
  (s0 s2 s4 s5 s8 s9 s1 s3 s6 a0 a2 a3 a4 a5 a6 a7 a8 a9 b0 b1 b2 b3 b4 b5 b6 b7 b8 b9 c4 c5 c6 c7 c8 c9 d0 d1:Value):
  Code.wp Tryz.prog (.loop (loopAt Tryz.f187 0)) Q {tmps:=#[s0,p1,s2,.pointer (some ⟨gb,0,none⟩),s4,s5,.agg (wvs h).toArray,.int .i64 0,s8,s9,s1,s3,s6,a0,a2,a3,a4,a5,a6,a7,a8,a9,b0,b1,b2,b3,b4,b5,b6,b7,b8,b9,c4,c5,c6,c7,c8,c9,d0,d1],defers:= []} w0:=by
 have HQ:=ι hQ;clear hQ;refine wp_loop_ghost_k (fun k a wr=>∀ Φ:Act→Prop,(∀ ⦃s0 s2 s4 s5 s8 s9 s1 s3 s6 a0 a2 a3 a4 a5 a6 a7 a8 a9 b0 b1 b2 b3 b4 b5 b6 b7 b8 b9 c4 c5 c6 c7 c8 c9 d0 d1:Value⦄ (i:Nat),(i+k=8∧Blk wr gb 286 (bvals (tdW h i)).toArray∧w0.grownBy wr (some gb)∧wr.heap.size=w0.heap.size)→Φ {tmps:=#[s0,p1,s2,.pointer (some ⟨gb,0,none⟩),s4,s5,.agg (wvs h).toArray,.int .i64 i,s8,s9,s1,s3,s6,a0,a2,a3,a4,a5,a6,a7,a8,a9,b0,b1,b2,b3,b4,b5,b6,b7,b8,b9,c4,c5,c6,c7,c8,c9,d0,d1],defers:= []})→Φ a) (8) ?_ ?_
 ·refine fun Φ hΦ=>hΦ (0) ?_;exact ⟨by omega,hB,World.grownBy.refl _ _,rfl⟩
 ·intro k1 a1 wr1 hI1 J1 K1 hJ1 hK1;refine hI1 (fun a=>Code.wp _ _ _ a _) ?_;clear hI1 a1;iterate 36 (intro _)
  intro i hrel
  show Code.wp _ _ _ _ _
  conv=>arg 2; whnf
  obtain ⟨h1,hw,hg,hs⟩:=hrel;by_cases hi:i<8
  ·have hlen:=tdW_length h i;have hix:=fun w=>run_index_w8 h hh i hi w;have c0:wr1.cell? ⟨gb,4*i,none⟩=some (.int .u8 (((tdW h i).getD (4*i) 0).toNat:Int)):=(hw.cell _).trans (bvals_at (by omega));have c1:wr1.cell? ⟨gb,4*i+1,none⟩=some (.int .u8 (((tdW h i).getD (4*i+1) 0).toNat:Int)):=(hw.cell _).trans (bvals_at (by omega));have c2:wr1.cell? ⟨gb,4*i+2,none⟩=some (.int .u8 (((tdW h i).getD (4*i+2) 0).toNat:Int)):=(hw.cell _).trans (bvals_at (by omega));have c3:wr1.cell? ⟨gb,4*i+3,none⟩=some (.int .u8 (((tdW h i).getD (4*i+3) 0).toNat:Int)):=(hw.cell _).trans (bvals_at (by omega));have f0:wr1.frozen? ⟨gb,4*i,none⟩=false:=hw.frozen _;have f1:wr1.frozen? ⟨gb,4*i+1,none⟩=false:=hw.frozen _;have f2:wr1.frozen? ⟨gb,4*i+2,none⟩=false:=hw.frozen _;have f3:wr1.frozen? ⟨gb,4*i+3,none⟩=false:=hw.frozen _;have hi1:(i:Int)<8:=by omega
   have E:Hid (tdW h (i+1)=((((tdW h i).set (4*i) (toB (shrW (h.getD i 0) 24))).set (4*i+1) (toB (shrW (h.getD i 0) 16))).set (4*i+2) (toB (shrW (h.getD i 0) 8))).set (4*i+3) (toB (h.getD i 0))):=ι rfl;have H:=ι (And.intro h1 (And.intro hw (And.intro hg hs)));have v0:IntKind.i64.wrap (4*(i:Int))=4*(i:Int):=IntWalk.i64_in _ (by omega);have v1:IntKind.i64.wrap (4*(i:Int)+1)=4*(i:Int)+1:=IntWalk.i64_in _ (by omega);have v2:IntKind.i64.wrap (4*(i:Int)+2)=4*(i:Int)+2:=IntWalk.i64_in _ (by omega);have v3:IntKind.i64.wrap (4*(i:Int)+3)=4*(i:Int)+3:=IntWalk.i64_in _ (by omega);have z0:0≤4*(i:Int):=by omega
   have z1:0≤4*(i:Int)+1:=by omega
   have z2:0≤4*(i:Int)+2:=by omega
   have z3:0≤4*(i:Int)+3:=by omega
   have l0:4*(i:Int)<32:=by omega
   have l1:4*(i:Int)+1<32:=by omega
   have l2:4*(i:Int)+2<32:=by omega
   have l3:4*(i:Int)+3<32:=by omega
   have t0:(4*(i:Int)).toNat=4*i:=by omega
   have t1:(4*(i:Int)+1).toNat=4*i+1:=by omega
   have t2:(4*(i:Int)+2).toNat=4*i+2:=by omega
   have t3:(4*(i:Int)+3).toNat=4*i+3:=by omega
   generalize h.getD i 0=x at *;generalize (tdW h i).getD (4*i) 0=y0 at *;generalize (tdW h i).getD (4*i+1) 0=y1 at *;generalize (tdW h i).getD (4*i+2) 0=y2 at *;generalize (tdW h i).getD (4*i+3) 0=y3 at *;clear h1 hw hg hs hlen;go_wp2
   clear v0 v1 v2 v3 t0 t1 t2 t3 z0 z1 z2 z3 l0 l1 l2 l3;refine Handed.intro (8 - (i+1)) ?_ (hJ1 _ _ _ (fun Φ hΦ=>hΦ (i+1) ?_))
   ·have:=H.out.1
    show 8 - (i+1)<k1;omega
   ·obtain ⟨h1,hw,hg,hs⟩:=H.out;have e:=E.out;have hw2:=(((hw.set_ (4*i) (.int .u8 ((toB (shrW x 24)).toNat:Int))).set_ (4*i+1) (.int .u8 ((toB (shrW x 16)).toNat:Int))).set_ (4*i+2) (.int .u8 ((toB (shrW x 8)).toNat:Int))).set_ (4*i+3) (.int .u8 ((toB x).toNat:Int));rw [bvals_set,bvals_set,bvals_set,bvals_set,←e] at hw2;exact ⟨by omega,hw2,grown_set0 (grown_set0 (grown_set0 (grown_set0 hg _ _) _ _) _ _) _ _,by simp [hs]⟩
  ·have e:i=8:=by omega
   subst e;have H:=ι (And.intro hw (And.intro hg hs));clear hw hg hs h1;go_wp2
   exact HQ.out _ H.out.1 H.out.2.1 H.out.2.2
theorem zeros32 (h:List UInt32):(bvals (tdW h 0)).toArray=#[.int .u8 0,.int .u8 0,.int .u8 0,.int .u8 0,.int .u8 0,.int .u8 0,.int .u8 0,.int .u8 0,.int .u8 0,.int .u8 0,.int .u8 0,.int .u8 0,.int .u8 0,.int .u8 0,.int .u8 0,.int .u8 0,.int .u8 0,.int .u8 0,.int .u8 0,.int .u8 0,.int .u8 0,.int .u8 0,.int .u8 0,.int .u8 0,.int .u8 0,.int .u8 0,.int .u8 0,.int .u8 0,.int .u8 0,.int .u8 0,.int .u8 0,.int .u8 0]:=rfl
theorem sha_told (h:List UInt32) (hh:h.length=8) (w:World):
  Calls Tryz.prog 187 #[.agg (wvs h).toArray] w fun e w'=>e= .returned (.string ⟨(tdW h 8).toArray⟩)∧Below w.heap.size w w':=by
 have h32:=ι (zeros32 h);have I8:=ι (size_of8 hh);have T8:=tdW_length h 8;have HH:=ι hh;have HS:Hid (∀ u,u=tdW h 8→Ending.returned (u:Value)= .returned (.string ⟨(tdW h 8).toArray⟩)):=ι (fun u hu=>by rw [hu]);generalize (Ending.returned (.string ⟨(tdW h 8).toArray⟩))=RR at HS ⊢;clear hh;go_enter Tryz.func187,Tryz.ntmps187
 go_upto_region 2 with fail
 rw [←h32.out];have F0:Hid (Blk ((w.alloc (.cells (wvs h).toArray 224)).alloc (.cells (bvals (tdW h 0)).toArray 286)) w.heap.size 224 (wvs h).toArray∧Blk ((w.alloc (.cells (wvs h).toArray 224)).alloc (.cells (bvals (tdW h 0)).toArray 286)) (w.heap.size+1) 286 (bvals (tdW h 0)).toArray∧Below w.heap.size w ((w.alloc (.cells (wvs h).toArray 224)).alloc (.cells (bvals (tdW h 0)).toArray 286))):=ι (by
  refine ⟨(Blk.new w _ _).alloc _,?_,by go_grown⟩
  have:=Blk.new (w.alloc (.cells (wvs h).toArray 224)) 286 (bvals (tdW h 0)).toArray
  rw [World.size_alloc] at this;exact this)
 generalize (w.alloc (.cells (wvs h).toArray 224)).alloc (.cells (bvals (tdW h 0)).toArray 286)=W0 at F0 ⊢;go_wp2_with (refine wpList_load_row rfl 224 _ rfl w.heap.size rfl _ _ _ _ F0.out.1 Tryz.underlying224 rfl I8.out ?_)
 refine told_loop h HH.out W0 (w.heap.size+1) F0.out.2.1 _ _ ?_ _ _ _ _ _ _ _ _ _ _ _ _ _ _ _ _ _ _ _ _ _ _ _ _ _ _ _ _ _ _ _ _ _ _ _ _;intro s0 s2 s4 s5 s7 s8 s9 s10 s11 s12 s13 s14 s15 s16 s17 s18 s19 s20 s21 s22 s23 s24 s25 s26 s27 s28 s29 s30 s31 s32 s33 s34 s35 s36 s37 s38 s39 w2 hb2 hg2 hs2;have F2:Hid (Blk w2 (w.heap.size+1) 286 (bvals (tdW h 8)).toArray∧Below w.heap.size w w2):=ι ⟨hb2,F0.out.2.2.grown hg2 F0.out.2.2.size (by intro k e; injection e with e; omega)⟩;clear hb2 hg2 hs2 F0;generalize tdW h 8=u at *;have hcv:∀ c,(convert 118 9 (.slice (some ⟨w.heap.size+1,0,none⟩) 32 c)).run Tryz.prog w2= .ok (.string ⟨u.toArray⟩) w2:=fun c=>conv_reads w2 w2.heap.size (some ⟨w.heap.size+1,0,none⟩) 32 c u ⟨by rw [bvals_length,T8],fun _=>⟨_,rfl,F2.out.1.lt,fun j v hv=>by
  rw [Addr.add_mid,Nat.zero_add,F2.out.1.cell];simpa using hv⟩⟩
 have FB:=ι F2.out.2;have FR:=ι (HS.out u rfl);clear F2 h32 I8 HH T8 HS;go_wp2
 go_ret
 exact ⟨FR.out,FB.out⟩
end
section
open Go.RowKit Go.Instr
theorem run_arrayAt64 (w:World) (a:Addr) (c:Nat):(Instr.arrayAt 226 (.slice (some a) 64 c)).run Tryz.prog w= .ok (.pointer (some a)) w:=by
 unfold Instr.arrayAt;simp [run_underlying Tryz.underlying226]
theorem still_load {P:Program} {ops:Array Oper} {o:Oper} {a:Act} {w:World} {K:Act→Prop} (hgd:o.guard=none) (ty:TypeId) (x:Operand) (ho:o.op= .load ty x) (v:Value)
  (hrun:(Instr.loadAt ty (a.eval x)).run P w= .ok v w) (h:K (a.put o.dst v)):if Region.wanted o (yielded ops a.tmps)=true then o.still P a w K else K (a.put o.dst undef):=by
 have hw:Region.wanted o (yielded ops a.tmps)=true:=by simp [Region.wanted,hgd]
 rw [if_pos hw];unfold Oper.still execOp;simp only [ho,hrun,Sem.run_bind,Sem.run_pure,Result.andThen_ok,Oper.stillUpon];exact ⟨trivial,h⟩
def hsW (h:List UInt32) (l:List UInt8):Nat→List UInt32
 |0=>h
 |i+1=>blockW (hsW h l i) ((l.drop (64*i)).take 64)
theorem hsW_length (h:List UInt32) (l:List UInt8) (hh:h.length=8):∀ i,(hsW h l i).length=8
 |0=>hh
 |i+1=>blockW_length _ _ (hsW_length h l hh i)
theorem bvals_drop (l:List UInt8) (n:Nat):bvals (l.drop n)=(bvals l).drop n:=by simp [bvals,List.map_drop]
theorem bvals_take (l:List UInt8) (n:Nat):bvals (l.take n)=(bvals l).take n:=by simp [bvals,List.map_take]
structure BSt (w0:World) (B gh g4:Nat) (h:List UInt32) (z:Array Value) (w:World):Prop where
 h:Blk w gh 224 (wvs h).toArray
 r:Blk w g4 224 z
 below:Below B w0 w
theorem blocks_loop (h:List UInt32) (hh:h.length=8) (l:List UInt8) (hl:l.length≤1000000) (A:Option Addr) (c:Nat) (hc:l.length≤c) (w0:World) (B gh g4:Nat) (z:Array Value) (hS:BSt w0 B gh g4 h z w0) (hB:B≤gh) (hne:g4≠gh) (hT:Tbl w0) (hB0:0<B)
  (HR:Reads w0 B 1 A l.length (bvals l))
  (Q:Exit→Act→World→Prop) (p4:Value)
  (hQ:∀ ⦃s0 s3 s5 s6 s7 s8 s9 s1 s2 s4 a0 a2 a3 a4 a5 a6 a7:Value⦄ (A':Option Addr) (n' c':Nat) (w2:World),BSt w0 B gh g4 (hsW h l (l.length / 64)) z w2→Reads w2 B 1 A' n' (bvals (l.drop (64*(l.length / 64))))→n'≤c'→Q (.exit 0) {tmps:=#[s0,.slice A' n' c',.pointer (some ⟨gh,0,none⟩),s3,p4,s5,s6,s7,s8,s9,s1,s2,s4,a0,a2,a3,a4,a5,a6,a7],defers:= []} w2)
  (s0 s3 s5 s6 s7 s8 s9 s1 s2 s4 a0 a2 a3 a4 a5 a6 a7:Value):
  Code.wp Tryz.prog (.loop (loopAt Tryz.f186 0)) Q {tmps:=#[s0,.slice A l.length c,.pointer (some ⟨gh,0,none⟩),s3,p4,s5,s6,s7,s8,s9,s1,s2,s4,a0,a2,a3,a4,a5,a6,a7],defers:= []} w0:=by
 have HQ:=ι hQ;clear hQ;refine wp_loop_ghost_k (fun k a wr=>∀ Φ:Act→Prop,(∀ ⦃s0 s3 s5 s6 s7 s8 s9 s1 s2 s4 a0 a2 a3 a4 a5 a6 a7:Value⦄ (i:Nat) (Ai:Option Addr) (ni ci:Nat),(ni+64*i=l.length∧k=ni∧ni≤ci∧BSt w0 B gh g4 (hsW h l i) z wr∧Reads wr B 1 Ai ni (bvals (l.drop (64*i))))→Φ {tmps:=#[s0,.slice Ai ni ci,.pointer (some ⟨gh,0,none⟩),s3,p4,s5,s6,s7,s8,s9,s1,s2,s4,a0,a2,a3,a4,a5,a6,a7],defers:= []})→Φ a) (l.length) ?_ ?_
 ·refine fun Φ hΦ=>hΦ (0) (A) (l.length) (c) ?_;exact ⟨by omega,rfl,hc,hS,HR⟩
 ·intro k1 a1 wr1 hI1 J1 K1 hJ1 hK1;refine hI1 (fun a=>Code.wp _ _ _ a _) ?_;clear hI1 a1;iterate 17 (intro _)
  intro i Ai ni ci hrel
  show Code.wp _ _ _ _ _
  conv=>arg 2; whnf
  obtain ⟨h1,hk,h2,hs,hr⟩:=hrel;by_cases hi:64≤ni
  ·obtain ⟨b,off,rfl,hbB,hcell⟩:=hr.form (by omega) (by omega);have hi1:(64:Int)≤ni:=by omega
   have hi2:(64:Int)≤ci:=by omega
   have hi3:64≤ci:=by omega
   have hlen:(l.drop (64*i)).length=ni:=by rw [List.length_drop]; omega
   have ht:((l.drop (64*i)).take 64).length=64:=by rw [List.length_take]; omega
   have hrg:wr1.drew.rangeAt b off (bvals ((l.drop (64*i)).take 64)):=fun j v hj=>by
    have hjl:j<64:=by have:=(List.getElem?_eq_some_iff.1 hj).1; rw [bvals_length,ht] at this; exact this
    rw [bvals_take,List.getElem?_take_of_lt hjl] at hj;obtain ⟨hj2,e⟩:=List.getElem?_eq_some_iff.1 hj
    have:=hcell j hj2
    rw [e] at this;exact this
   have hr2:wr1.drew.rangeAt gh 0 (wvs (hsW h l i)):=fun j v hj=>by
    rw [Nat.zero_add];exact (hs.h.cell j).trans (by simpa using hj)
   have L1:=ι (run_loadAt_mid (P:=Tryz.prog) wr1.drew b off 226 _ _ hrg Tryz.underlying226 rfl (by rw [bvals_length,ht]; exact info_b64));have L2:=ι (run_loadAt_mid (P:=Tryz.prog) wr1.drew gh 0 224 _ _ hr2 Tryz.underlying224 rfl (by rw [wvs_length,hsW_length h l hh i]; exact info_w8));have hcut:=hr.cut (k:=64) (cap:=ci) hi h2;rw [Nat.mul_one,←bvals_drop,List.drop_drop,show 64*i+64=64*(i+1) by omega] at hcut;have E:Hid (hsW h l (i+1)=blockW (hsW h l i) ((l.drop (64*i)).take 64)):=ι rfl;have HB64:=ι ht;have H8:=ι (hsW_length h l hh i);have HBW:=ι (blockW_length (hsW h l i) ((l.drop (64*i)).take 64) (hsW_length h l hh i));have H:=ι (And.intro h1 (And.intro hk (And.intro h2 (And.intro hs hcut))));have hat:=fun w=>run_arrayAt64 w ⟨b,off,none⟩ ci;have htb:Hid (Tbl wr1.drew):=ι (hT.below (show Below B w0 wr1.drew from hs.below.drew) hB0);clear hr hcell hrg hr2 hlen ht hcut hs h1 hk h2;generalize (l.drop (64*i)).take 64=bb at *;generalize hsW h l i=hi0 at *;go_wp2
   refine wp_region_still_tail 5 (by kernel_rfl) (by kernel_rfl) ?_;simp only [List.take_succ_cons,List.take_zero,List.drop_succ_cons,List.drop_zero];refine wpStill_step (fun K hK=> ?_);refine still_load rfl _ _ rfl _ L2.out ?_;refine hK _ ?_;clear hK K
   repeat still_step
   refine wpStill_step (fun K hK=> ?_);refine still_load rfl _ _ rfl _ L1.out ?_;refine hK _ ?_;clear hK K;refine wpStill_nil ?_
   change wpList _ _ _ _ _ wr1.drew
   have FS:Hid (∀ w2,Below wr1.heap.size wr1.drew w2→Blk w2 gh 224 (wvs hi0).toArray∧Blk w2 g4 224 z∧Below B w0 w2):=ι (fun w2 hb2=>by
    obtain ⟨_,_,_,hs,_⟩:=H.out;have hb2':Below wr1.heap.size wr1 w2:=⟨hb2.os,hb2.tape,hb2.output,hb2.size,hb2.block⟩
    exact ⟨hs.h.below hb2' hs.h.lt,hs.r.below hb2' hs.r.lt,hs.below.trans (hb2'.mono (by have:=hs.h.lt; omega))⟩)
   have HRR:Hid (∀ w2,Below wr1.heap.size wr1.drew w2→Reads w2 B 1 (if ci=64 then some ⟨b,off,none⟩ else some ((⟨b,off,none⟩:Addr).add 64)) (ni - 64) (bvals (l.drop (64*(i+1))))):=ι (fun w2 hb2=>by
    obtain ⟨_,_,_,hs,hr⟩:=H.out;refine Reads.keep (w:=wr1) ?_ (fun p hp=>hb2.cell (by have:=hs.h.lt; show p.block<wr1.heap.size; omega));exact hr)
   have HN:=ι (And.intro H.out.1 (And.intro H.out.2.1 H.out.2.2.1));have IZ:=ι (size_of8 HBW.out);have AZ:=ι (wvs_all (blockW hi0 bb));have SZ:Hid ((wvs hi0).toArray.size=(wvs (blockW hi0 bb)).toArray.size):=ι (by simp [wvs_length,H8.out,HBW.out]);have hsB:=(FS.out wr1.drew (Below.refl _ _)).1.lt;clear H L1 L2;have HC:=fun w3 h3=>sha_Block hi0 H8.out bb HB64.out w3 h3;have HCC:=ι HC;clear HC;generalize blockW hi0 bb=hj at *;go_wp2_with fail
   refine (HCC.out _ htb.out).mono ?_;rintro e w2 ⟨rfl,hb2⟩;obtain ⟨k1',k2',k3'⟩:=FS.out w2 hb2;have r2:=HRR.out w2 hb2;have K2:=ι (And.intro k1' (And.intro k2' (And.intro k3' r2)));clear k1' k2' k3' r2 hb2 FS HRR;by_cases h64:ci=64
   ·go_wp2_with (refine wpList_store_row rfl 224 _ _ rfl gh _ rfl rfl _ _ K2.out.1 IZ.out SZ.out AZ.out ?_)
    refine Handed.intro (ni - 64) ?_ (hJ1 _ _ _ (fun Φ hΦ=>hΦ (i+1) (some ⟨b,off,none⟩) (ni - 64) (0) ?_))
    ·have:=HN.out.1
     have:=HN.out.2.1
     show ni - 64<k1;omega
    ·obtain ⟨n1,n2,n3⟩:=HN.out;obtain ⟨k1',k2',k3',r2⟩:=K2.out;rw [if_pos h64] at r2;refine ⟨by omega,rfl,by omega,⟨?_,?_,?_⟩,?_⟩
     ·rw [E.out];exact setRow_heap w2 _ _ _ _ _ k1'
     ·exact (setRow_other w2 gh g4 _ hne).trans k2'
     ·exact below_setRow k3' hB _
     ·exact r2.keep fun p hp=>World.cell?_of_block (setRow_other w2 gh p.block _ (by omega))
   ·go_wp2_with (refine wpList_store_row rfl 224 _ _ rfl gh _ rfl rfl _ _ K2.out.1 IZ.out SZ.out AZ.out ?_)
    refine Handed.intro (ni - 64) ?_ (hJ1 _ _ _ (fun Φ hΦ=>hΦ (i+1) (some ⟨b,off+64,none⟩) (ni - 64) (ci - 64) ?_))
    ·have:=HN.out.1
     have:=HN.out.2.1
     show ni - 64<k1;omega
    ·obtain ⟨n1,n2,n3⟩:=HN.out;obtain ⟨k1',k2',k3',r2⟩:=K2.out;rw [if_neg h64,Addr.add_mid] at r2;refine ⟨by omega,rfl,by omega,⟨?_,?_,?_⟩,?_⟩
     ·rw [E.out];exact setRow_heap w2 _ _ _ _ _ k1'
     ·exact (setRow_other w2 gh g4 _ hne).trans k2'
     ·exact below_setRow k3' hB _
     ·exact r2.keep fun p hp=>World.cell?_of_block (setRow_other w2 gh p.block _ (by omega))
  ·have hi2:((64:Int)≤ni)=False:=by simp; omega
   have e:i=l.length / 64:=by omega
   rw [e] at hs hr;have H:=ι (And.intro hs (And.intro hr h2));clear hs hr h1 hk h2 e;go_wp2
   exact HQ.out _ _ _ _ H.out.1 H.out.2.1 H.out.2.2
theorem step_store_row {P:Program} {ops:Array Oper} {o:Oper} {a:Act} {w:World} {K:Act→World→Prop} {Q:Exit→Act→World→Prop} {E:Prop} (hgd:o.guard=none) (ty:TypeId) (x y:Operand) (ho:o.op= .store ty x y)
  (g:Nat) (cells:Array Value) (hx:a.eval x= .pointer (some ⟨g,0,none⟩)) (hy:a.eval y= .agg cells)
  (t:TypeId) (old:Array Value) (hg:w.heap[g]?=some (.cells old t (0,0))) (hi:(P.info? ty).map (·.size)=some cells.size) (hold:old.size=cells.size) (h1:cells.all (·.oneCell')=true)
  (h:∀ w',Hid (w'=w.setRow g cells)→K (a.put o.dst undef) w'):if Region.wanted o (yielded ops a.tmps)=true then Oper.wp P o a w K Q else E:=by
 have hw:Region.wanted o (yielded ops a.tmps)=true:=by simp [Region.wanted,hgd]
 rw [if_pos hw];exact wp_store_row ty x y ho g cells hx hy t old hg hi hold h1 (h _ (ι rfl))
theorem results_cell_tmp {P:Program} {fn:Func} {p q:Tmp} {ty:TypeId} (h:fn.results=#[.cell p ty,.tmp q]) (tmps:Array Value) (w:World) (g:Nat) (t:TypeId) (cs:Array Value) (fr:Nat × Nat) (d:TypeDesc)
  (hp:tmps.getD p undef= .pointer (some ⟨g,0,none⟩)) (hg:w.heap[g]?=some (.cells cs t fr))
  (hu:P.underlying ty=some d) (hd:(match d with| .struct _| .array _ _=>true|_=>false)=true) (hi:(P.info? ty).map (·.size)=some cs.size):
  (results fn tmps).run P w= .ok (.tuple #[.agg cs,tmps.getD q undef]) w:=by
 have hp':tmps[p]?.getD undef= .pointer (some ⟨g,0,none⟩):=by simpa using hp
 simp [results,h,hp',asAddr,run_loadVar_row w g t ty cs fr d hg hu hd hi]
theorem exec_load_row {P:Program} {ρ:Operand→Value} {o:Oper} {x:Operand} (w:World) (g:Nat) (ty:TypeId) (ho:o.op= .load ty x) (hx:ρ x= .pointer (some ⟨g,0,none⟩)) {cs:Array Value} {t:TypeId} {d:TypeDesc} (hg:Blk w g t cs)
  (hu:P.underlying ty=some d) (hd:(match d with| .struct _| .array _ _=>true|_=>false)=true) (hi:(P.info? ty).map (·.size)=some cs.size):(execOp ρ o).run P w= .ok (.value (.agg cs)) w:=by
 unfold execOp;simp only [ho,hx,Instr.loadAt,Instr.sureAddr,Sem.run_bind,Sem.run_pure,Result.andThen_ok,run_loadVar_row w g t ty cs (0,0) d hg hu hd hi]
theorem own_keep9 {w w1:World} {base e size n:Nat} {v:Value} {xs:List Value} (h:w.ownsRow base e size v n xs) (hb:∀ k,v.ownBlock=some k→w1.heap[k]?=w.heap[k]?):w1.ownsRow base e size v n xs:=by
 refine ⟨h.1,?_⟩;rcases h.2 with h2|⟨g,cap,cur,rfl,hbg,hg,h3⟩
 ·exact .inl h2
 ·exact .inr ⟨g,cap,cur,rfl,hbg,(hb g rfl).trans hg,h3⟩
structure BEnd (w:World) (ws:Array Value) (z:Array Value) (A:Option Addr) (n:Nat) (rest:List UInt8) (w':World):Prop where
 h:Blk w' w.heap.size 224 ws
 r:Blk w' (w.heap.size+1) 224 z
 below:Below w.heap.size w w'
 reads:Reads w' w.heap.size 1 A n (bvals rest)
theorem BEnd.drew {w:World} {ws z:Array Value} {A:Option Addr} {n:Nat} {rest:List UInt8} {w':World} (h:BEnd w ws z A n rest w'):BEnd w ws z A n rest w'.drew:=⟨h.h,h.r,h.below.drew,h.reads⟩
theorem BEnd.grown {w:World} {ws z:Array Value} {A:Option Addr} {n:Nat} {rest:List UInt8} {w' w2:World} (h:BEnd w ws z A n rest w') (hg:w'.grownBy w2 none):BEnd w ws z A n rest w2:=
 ⟨h.h.grown hg (by simp),h.r.grown hg (by simp),h.below.grown hg h.below.size (by simp),h.reads.grown hg h.below.size (by simp)⟩
theorem BEnd.set {w:World} {ws z:Array Value} {A:Option Addr} {n:Nat} {rest:List UInt8} {w':World} (h:BEnd w ws z A n rest w') (z':Array Value):BEnd w ws z' A n rest (w'.setRow (w.heap.size+1) z'):=
 ⟨(setRow_other w' _ _ _ (by omega)).trans h.h,setRow_heap w' _ _ _ _ _ h.r,below_setRow h.below (by omega) _,h.reads.keep fun p hp=>World.cell?_of_block (setRow_other w' _ _ _ (by omega))⟩
def BlocksEnd (w:World) (h:List UInt32) (l:List UInt8) (e:Ending) (w':World):Prop:=
 ∃ v',e= .returned (.tuple #[.agg (wvs (hsW h l (l.length / 64))).toArray,v'])∧w'.ownsRow (w.heap.size+2) 5 1 v' (l.drop (64*(l.length / 64))).length (bvals (l.drop (64*(l.length / 64))))∧Below w.heap.size w w'
theorem sha_blocks (h:List UInt32) (hh:h.length=8) (l:List UInt8) (hl:l.length≤1000000) (A:Option Addr) (c:Nat) (hc:l.length≤c) (w:World) (hT:Tbl w) (HR:Reads w w.heap.size 1 A l.length (bvals l)):
  Calls Tryz.prog 186 #[.agg (wvs h).toArray,.slice A l.length c] w (BlocksEnd w h l):=by
 have Hpos:=hT.pos;have I8:=size_of8 (hsW_length h l hh (l.length / 64));have A8:=wvs_all (hsW h l (l.length / 64));have S8:(8:Nat)=(wvs (hsW h l (l.length / 64))).toArray.size:=by rw [List.size_toArray,wvs_length,hsW_length h l hh]
 have HP:Hid (∀ v' w',w'.ownsRow (w.heap.size+2) 5 1 v' (l.drop (64*(l.length / 64))).length (bvals (l.drop (64*(l.length / 64))))→Below w.heap.size w w'→BlocksEnd w h l (.returned (.tuple #[.agg (wvs (hsW h l (l.length / 64))).toArray,v'])) w'):=ι (fun v' w' h1 h2=>⟨v',rfl,h1,h2⟩);have HL:=ι (fun Q p4 hQ=>blocks_loop h hh l hl A c hc (((w.alloc (.cells (wvs h).toArray 224)).alloc (.cells #[ω,ω,ω,ω,ω,ω,ω,ω] 224))) w.heap.size w.heap.size (w.heap.size+1) #[ω,ω,ω,ω,ω,ω,ω,ω] ⟨(Blk.new w _ _).alloc _,(by have:=Blk.new (w.alloc (.cells (wvs h).toArray 224)) 224 #[ω,ω,ω,ω,ω,ω,ω,ω]; rw [World.size_alloc] at this; exact this),Below.refl _ _⟩ (Nat.le_refl _) (by omega) (hT.below (B:=w.heap.size) (by go_grown) Hpos) Hpos ((HR.alloc (Nat.le_refl _) _).alloc (by simp) _) Q p4 hQ);have hb0:Below w.heap.size w (((w.alloc (.cells (wvs h).toArray 224)).alloc (.cells #[ω,ω,ω,ω,ω,ω,ω,ω] 224))):=by go_grown
 have hrest:(l.drop (64*(l.length / 64))).length≤1000000:=by rw [List.length_drop]; omega
 generalize BlocksEnd w h l=PP at HP ⊢;generalize l.drop (64*(l.length / 64))=rest at *;generalize hsW h l (l.length / 64)=hs at *;obtain ⟨i0,hi0,hz0,hz1,hz2⟩:=info_parts info_byte;go_enter Tryz.func186,Tryz.ntmps186
 go_wp2_with fail
 refine HL.out _ _ ?_ _ _ _ _ _ _ _ _ _ _ _ _ _ _ _ _ _;intro s0 s3 s5 s6 s7 s8 s9 s10 s11 s12 s13 s14 s15 s16 s17 s18 s19 A' n' c' w2 hs2 hr2 hc2;have F0:Hid (BEnd w (wvs hs).toArray #[ω,ω,ω,ω,ω,ω,ω,ω] A' n' rest w2.drew):=ι ⟨hs2.h,hs2.r,(hb0.trans hs2.below).drew,hr2⟩;have hn':n'=rest.length:=by have:=hr2.1; rw [bvals_length] at this; omega
 subst hn';have L2:=ι (run_loadAt_mid (P:=Tryz.prog) w2.drew w.heap.size 0 224 (wvs hs) _ (fun j v hj=>by rw [Nat.zero_add]; exact (hs2.h.cell j).trans (by simpa using hj)) Tryz.underlying224 rfl (by have:=I8; rw [List.size_toArray] at this; exact this));have A8':=ι A8;have I8':=ι I8;have S8':Hid ((#[ω,ω,ω,ω,ω,ω,ω,ω]:Array Value).size=(wvs hs).toArray.size):=ι S8;clear hs2 hr2 hb0 HL A8 I8 S8;go_wp2_with fail
 have F0':=F0.out;clear F0;have hd:w2.drew.heap.size=w2.drew.heap.size:=rfl;refine wp_region_held_drew (S:=fun w'=>Blk w' w.heap.size 224 (wvs hs).toArray) (by kernel_rfl) F0'.h (fun hHeld=> ?_);generalize w2.drew=w3 at *;have F0:=ι F0';generalize hws:(wvs hs).toArray=ws at *;clear hws L2 F0' hd;refine wpAnyH_take (i:=0) (oi:=⟨some 17,_,_,_,_,_⟩) (v:= .agg ws) rfl (by kernel_rfl) (by kernel_rfl) (by kernel_rfl) (fun _ _ _ h=>h) (Or.inl ⟨by rfl,fun w1 hS=> ?_⟩) hHeld ?_
 ·exact exec_load_row w1 w.heap.size 224 rfl rfl hS Tryz.underlying224 rfl I8'.out
 simp only [Act.put,List.setIfInBounds_toArray,List.set_cons_zero,List.set_cons_succ];refine wpAnyH_take (i:=1) (oi:=⟨some 18,_,_,_,_,_⟩) (v:= .slice A' rest.length c') rfl (by kernel_rfl) (by kernel_rfl) (by kernel_rfl) (fun _ _ _ h=>h) (Or.inl ⟨by rfl,fun w1 hS=>by unfold execOp; rfl⟩) hHeld ?_;simp only [Act.put,List.setIfInBounds_toArray,List.set_cons_zero,List.set_cons_succ];refine wpAnyH_ready (rs:= [2]) (by kernel_rfl) (by simp) ?_;refine AllReadyH.cons (o:=⟨some 19,_,_,_,_,_⟩) rfl (fun K hK=> ?_) AllReadyH.nil
 ·refine step_append_any _ rfl _ _ 118 rfl (w.heap.size+2) 5 i0 (.int .u8 0) 1 1 Tryz.underlying118 hi0 hz0 hz1 hz2 rfl (by decide) (.slice none 0 0) 0 [] rfl (World.ownsRow_nil _ _ _ _) w.heap.size A' rest.length c' (bvals rest) rfl F0.out.reads (bvals_one _) (by simp only [maxLen]; omega) (by omega) F0.out.r.lt ?_;intro v4 w4 own4 hg4 _;have F4:=ι (F0.out.grown hg4);rw [List.nil_append,Nat.zero_add] at own4;have O4:=ι own4;clear own4 hg4 F0;refine hK.out _ _ F4.out.h (fun hHeld=> ?_);clear hK K;simp only [Act.put,List.setIfInBounds_toArray,List.set_cons_zero,List.set_cons_succ];refine wpAnyH_ready (rs:= [3]) (by kernel_rfl) (by simp) ?_;refine AllReadyH.cons (o:=⟨none,_,_,_,_,_⟩) rfl (fun K hK=> ?_) AllReadyH.nil;refine step_store_row rfl 224 _ _ rfl (w.heap.size+1) ws rfl rfl _ _ F4.out.r I8'.out S8'.out A8'.out ?_;intro w5 h5;have F5:=h5.out;subst F5;refine hK.out _ _ (F4.out.set ws).h (fun hHeld=> ?_);clear hK K;simp only [Act.put,List.setIfInBounds_toArray,List.set_cons_zero,List.set_cons_succ];refine wpAnyH_take (i:=4) (oi:=⟨some 5,_,_,_,_,_⟩) (v:=v4) rfl (by kernel_rfl) (by kernel_rfl) (by kernel_rfl) (fun _ _ _ h=>h) (Or.inl ⟨by rfl,fun w1 hS=>by unfold execOp; rfl⟩) hHeld ?_;simp only [Act.put,List.setIfInBounds_toArray,List.set_cons_zero,List.set_cons_succ];refine wpAnyH_done (by kernel_rfl) ?_ _;have G:Hid (Blk (w4.setRow (w.heap.size+1) ws) (w.heap.size+1) 224 ws∧(w4.setRow (w.heap.size+1) ws).ownsRow (w.heap.size+2) 5 1 v4 rest.length (bvals rest)∧Below w.heap.size w (w4.setRow (w.heap.size+1) ws)):=ι ⟨(F4.out.set ws).r,own_keep9 O4.out fun k e=>setRow_other w4 _ _ _ (by have:=(O4.out.lt k e).1; omega),(F4.out.set ws).below⟩;go_wp2
  refine bodyPost_ret (v:= .tuple #[.agg ws,v4]) (results_cell_tmp (fn:=Tryz.f186) (p:=4) (q:=5) (by rfl) _ _ (w.heap.size+1) 224 ws (0,0) _ rfl G.out.1 Tryz.underlying224 rfl I8'.out) rfl (HP.out v4 _ G.out.2.1 G.out.2.2)
end
end Go.Proofs.YtnelhjfjkkdoaaaGreatDoor