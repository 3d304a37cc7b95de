import Derived.Test.YtnelhjfjkkdoaaaGreatDoorJ05
import Derived.Test.YtnelhjfjkkdoaaaGreatDoorJ07
import Derived.Test.YtnelhjfjkkdoaaaGreatDoorJ01
import Derived.Deep.MidRow
import Derived.DeepKeys
set_option linter.unusedSimpArgs false
set_option linter.unusedVariables false
namespace Go.Proofs.YtnelhjfjkkdoaaaGreatDoor
open Go.RowKit Go.Instr
attribute [local go_sem] ba_get ByteArray.mk_append_mk
def pathOk (p : List UInt8) (least : Nat) : Bool:=Nib.fit p && decide (least ≤ p.length ∧ p.length ≤ 16)
set_option maxRecDepth 100000 in
theorem node_path (p : List UInt8) (least : Nat) (hl : least ≤ 1) (hp : p.length ≤ 1048576) (w : World) :
  Calls Tryz.prog 183 #[.string ⟨p.toArray⟩,.int .i64 (least : Int)] w fun e w'=>e = .returned (.bool (pathOk p least)) ∧ w = w':=by
 have HF:=nib_Fit p w hp
 have HP : Hid (∀ b w',pathOk p least = b → w = w' → (fun e w'=>e = Ending.returned (.bool (pathOk p least)) ∧ w = w') (Ending.returned (.bool b)) w'):=Lib.hid (fun b w' e hb=>⟨by rw [e],hb⟩)
 generalize (fun e w'=>e = Ending.returned (.bool (pathOk p least)) ∧ w = w') = P at HP ⊢
 unfold pathOk at HP
 cases hf : Nib.fit p with
 | false =>
  rw [hf] at HF HP
  go_enter Tryz.func183,Tryz.ntmps183
  go_wp2_with fail
  refine HF.mono ?_
  rintro e w1 ⟨rfl,rfl⟩
  go_wp2
  exact HP.out _ _ (by simp) rfl
 | true =>
  rw [hf] at HF HP
  by_cases h1 : least ≤ p.length
  ·have h1' : (least : Int) ≤ p.length:=by omega
   by_cases h2 : p.length ≤ 16
   ·have h2' : (p.length : Int) ≤ 16:=by omega
    go_enter Tryz.func183,Tryz.ntmps183
    go_wp2_with fail
    refine HF.mono ?_
    rintro e w1 ⟨rfl,rfl⟩
    go_wp2
    exact HP.out _ _ (by simp [h1,h2]) rfl
   ·have h2' : ((p.length : Int) ≤ 16) = False:=by simp; omega
    go_enter Tryz.func183,Tryz.ntmps183
    go_wp2_with fail
    refine HF.mono ?_
    rintro e w1 ⟨rfl,rfl⟩
    go_wp2
    exact HP.out _ _ (by simp [h2]) rfl
  ·have h1' : ((least : Int) ≤ p.length) = False:=by simp; omega
   go_enter Tryz.func183,Tryz.ntmps183
   go_wp2_with fail
   refine HF.mono ?_
   rintro e w1 ⟨rfl,rfl⟩
   go_wp2
   exact HP.out _ _ (by simp [h1]) rfl
def strv (l : List (List UInt8)) : List Value:=l.map fun s=>.string ⟨s.toArray⟩
theorem strv_length (l : List (List UInt8)) : (strv l).length = l.length:=by simp [strv]
theorem strv_at {l : List (List UInt8)} {i : Nat} (h : i < l.length) : (strv l)[i]? = some (.string ⟨l[i].toArray⟩):=by
 simp [strv,h]
def sumsOk (l : List (List UInt8)) : Bool:=l.all fun s=>decide (s.length = 32)
set_option maxRecDepth 100000 in
theorem node_sums (l : List (List UInt8)) (hl : l.length ≤ 1000) (w : World) (A : Option Addr) (c : Nat) (HR : Reads w w.heap.size 1 A l.length (strv l)) :
  Calls Tryz.prog 184 #[.slice A l.length c] w fun e w'=>e = .returned (.bool (sumsOk l)) ∧ w = w':=by
 go_enter Tryz.func184,Tryz.ntmps184
 go_wp2
 refine wp_loop_ghost_k (fun k a wr => ∀ Φ : Act → Prop,(∀ (s0 s1 s2 s3 s4 s8 s9 s10 s11 s12 s13 s14 : Value) (i : Nat),(i + k = l.length ∧ sumsOk (l.take i) = true ∧ wr = w) → Φ { tmps:=#[s0,s1,s2,s3,s4,.slice A l.length c,.int .i64 l.length,.int .i64 i,s8,s9,s10,s11,s12,s13,s14],defers := [] }) → Φ a) (l.length) ?_ ?_
 ·refine fun Φ hΦ=>hΦ _ _ _ _ _ _ _ _ _ _ _ _ (0) ?_
  exact ⟨by omega,rfl,rfl⟩
 ·intro k1 a1 wr1 hI1 J1 K1 hJ1 hK1
  refine hI1 (fun a=>Code.wp _ _ _ a _) ?_
  clear hI1 a1
  intro s0 s1 s2 s3 s4 s5 s6 s7 s8 s9 s10 s11 i hrel
  show Code.wp _ _ _ _ _
  obtain ⟨h1,h2,rfl⟩:=hrel
  by_cases hi : i < l.length
  ·obtain ⟨ad,rfl,hbl,hcell⟩:=HR.2 (by omega)
   have q0:=hcell i _ (strv_at hi)
   have hi1 : (i : Int) < l.length:=by omega
   have hs : sumsOk (l.take (i + 1)) = decide (l[i].length = 32):=by
    rw [List.take_succ_eq_append_getElem hi]
    unfold sumsOk at *
    rw [List.all_append,h2]
    simp
   have hf : decide (l[i].length = 32) = false → sumsOk l = false:=fun h=>by
    rw [Bool.eq_false_iff]
    intro hc
    unfold sumsOk at hc
    rw [List.all_eq_true] at hc
    have:=hc _ (List.getElem_mem hi)
    rw [h] at this
    cases this
   clear hcell HR
   generalize l[i] = s at *
   by_cases h32 : s.length = 32
   ·have e32 : ((s.length : Int) = 32) = True:=by simp; omega
    have T:=Lib.hid (show sumsOk (l.take (i + 1)) = true from hs.trans (by simp [h32]))
    clear hs hf
    go_wp2
    refine Handed.intro (l.length - (i + 1)) ?_ (hJ1 _ _ _ (fun Φ hΦ=>hΦ _ _ _ _ _ _ _ _ _ _ _ _ (i + 1) ?_))
    ·omega
    ·exact ⟨by omega,T.out,rfl⟩
   ·have e32 : ((s.length : Int) = 32) = False:=by simp; omega
    have T:=Lib.hid (hf (by simp [h32]))
    clear hs hf
    go_wp2
    go_ret
    exact ⟨ret_bool T.out.symm,rfl⟩
  ·have e : l.take i = l:=List.take_of_length_le (by omega)
   have hi2 : ((i : Int) < l.length) = False:=by simp; omega
   rw [e] at h2
   have E2:=Lib.hid h2
   clear h2 e
   go_wp2
   go_ret
   exact ⟨ret_bool E2.out.symm,rfl⟩
def kidsW (K : List (List UInt8)) : List (List UInt8):=K.filter fun s => !s.isEmpty
theorem kidsW_snoc (K : List (List UInt8)) (i : Nat) (h : i < K.length) : kidsW (K.take (i + 1)) = kidsW (K.take i) ++ (if K[i].isEmpty then [] else [K[i]]):=by
 rw [List.take_succ_eq_append_getElem h]
 unfold kidsW
 rw [List.filter_append]
 cases h2 : K[i].isEmpty <;> simp [h2]
theorem info_str : (Tryz.prog.info? 9).map (fun i=>(i.zero,i.size,i.bytes)) = some (some (.string ⟨#[]⟩),1,16):=by kernel_rfl
theorem size_arr : (Tryz.prog.info? 131).map (·.size) = some 16:=by kernel_rfl
theorem strv_one (l : List (List UInt8)) : ∀ u ∈ strv l,u.oneCell' = true:=by
 intro u hu
 simp only [strv,List.mem_map] at hu
 obtain ⟨x,_,rfl⟩:=hu
 rfl
theorem run_index_k (K : List (List UInt8)) (hK : K.length = 16) (i : Nat) (hi : i < 16) (w : World) : (Instr.index 131 (.agg (strv K).toArray) (.int .i64 (i : Int))).run Tryz.prog w = .ok (.string ⟨(K.getD i []).toArray⟩) w:=by
 have a0:=Tryz.isAgg9
 have z0:=Tryz.sizeOf9
 have e : (strv K)[i]? = some (.string ⟨(K.getD i []).toArray⟩):=by
  rw [strv_at (show i < K.length by omega),List.getD_eq_getElem?_getD,List.getElem?_eq_getElem (show i < K.length by omega)]
  rfl
 simp [Instr.index,asIntOf,run_underlying Tryz.underlying131,part,a0,z0,hi,e]
set_option maxRecDepth 100000 in
theorem kids_loop (w w0 : World) (K : List (List UInt8)) (hK : K.length = 16) (hb : Below w.heap.size w w0)
  (Q : Exit → Act → World → Prop)
  (hQ : ∀ (s0 s1 s2 s4 s5 s6 s7 s8 s9 s10 s11 s12 s13 s14 s15 s16 s17 s18 : Value) (A : Option Addr) (c n : Nat) (w2 : World),n = (kidsW K).length → w2.ownsRow w.heap.size 9 1 (.slice A n c) n (strv (kidsW K)) → Below w.heap.size w w2 → Q (.exit 0) { tmps:=#[s0,s1,s2,.slice A n c,s4,s5,s6,s7,s8,s9,s10,s11,s12,s13,s14,s15,s16,s17,s18],defers := [] } w2)
  (s0 s1 s2 s4 s5 s6 s9 s10 s11 s12 s13 s14 s15 s16 s17 s18 : Value) :
  Code.wp Tryz.prog (.loop (loopAt Tryz.f138 0)) Q { tmps:=#[s0,s1,s2,.slice none 0 0,s4,s5,s6,.agg (strv K).toArray,.int .i64 0,s9,s10,s11,s12,s13,s14,s15,s16,s17,s18],defers := [] } w0:=by
 have HQ:=Lib.hid hQ
 clear hQ
 refine wp_loop_ghost_k (fun k a wr => ∀ Φ : Act → Prop,(∀ (s0 s1 s2 s4 s5 s6 s9 s10 s11 s12 s13 s14 s15 s16 s17 s18 : Value) (i n c : Nat) (A : Option Addr),(i + k = 16 ∧ n = (kidsW (K.take i)).length ∧ n ≤ i ∧ wr.ownsRow w.heap.size 9 1 (.slice A n c) n (strv (kidsW (K.take i))) ∧ Below w.heap.size w wr) → Φ { tmps:=#[s0,s1,s2,.slice A n c,s4,s5,s6,.agg (strv K).toArray,.int .i64 i,s9,s10,s11,s12,s13,s14,s15,s16,s17,s18],defers := [] }) → Φ a) (16) ?_ ?_
 ·refine fun Φ hΦ=>hΦ _ _ _ _ _ _ _ _ _ _ _ _ _ _ _ _ (0) (0) (0) (none) ?_
  exact ⟨by omega,by simp [kidsW],by omega,by simpa [kidsW,strv] using World.ownsRow_nil _ _ _ _,hb⟩
 ·intro k1 a1 wr1 hI1 J1 K1 hJ1 hK1
  refine hI1 (fun a=>Code.wp _ _ _ a _) ?_
  clear hI1 a1
  intro s0 s1 s2 s3 s4 s5 s6 s7 s8 s9 s10 s11 s12 s13 s14 s15 i n c A hrel
  show Code.wp _ _ _ _ _
  conv=>arg 2; whnf
  obtain ⟨h1,h2,h3,own,hb⟩:=hrel
  by_cases hi : i < 16
  ·have hi1 : (i : Int) < 16:=by omega
   have HX:=fun w=>run_index_k K hK i hi w
   have hks:=kidsW_snoc K i (by omega)
   have hg : K.getD i [] = K[i]'(by omega):=by rw [List.getD_eq_getElem?_getD,List.getElem?_eq_getElem (show i < K.length by omega)]; rfl
   rw [← hg] at hks
   generalize K.getD i [] = s at *
   clear hg
   have HI:=Lib.hid (And.intro h1 (And.intro h2 (And.intro h3 hb)))
   have HK:=Lib.hid hks
   have hn16 : n ≤ 16:=by omega
   generalize kidsW (K.take i) = D at *
   cases s with
   | nil =>
    have O:=Lib.hid own
    clear own h1 h2 h3 hb hks
    go_wp2
    refine Handed.intro (16 - (i + 1)) ?_ (hJ1 _ _ _ (fun Φ hΦ=>hΦ _ _ _ _ _ _ _ _ _ _ _ _ _ _ _ _ (i + 1) (n) (c) (A) ?_))
    ·have:=HI.out.1
     omega
    ·rw [HK.out]
     simp only [List.isEmpty_nil,if_true,List.append_nil]
     exact ⟨by have:=HI.out.1; omega,HI.out.2.1,by have:=HI.out.2.2.1; omega,O.out,HI.out.2.2.2⟩
   | cons a t =>
    have ne1 : ((a :: t).toArray = #[]) = False:=by simp
    have hone : ∀ u ∈ [Value.string ⟨(a :: t).toArray⟩],u.oneCell' = true:=by intro u hu; rw [List.mem_singleton] at hu; subst hu; rfl
    clear h1 h2 h3 hks
    have se : (a :: t).isEmpty = false:=rfl
    generalize hs : (a :: t) = s at *
    go_wp2_with (at_builtin; refine wpList_append_new wr1 9 [.string ⟨s.toArray⟩] rfl _ _ 26 rfl w.heap.size 1 16 _ info_str Tryz.underlying26 rfl (by decide) (.slice A n c) n (strv D) rfl own 1 1 rfl rfl hone (by simp only [maxLen]; omega) (by omega) w.heap.size w hb (Nat.le_refl _) hb.size ?_; intro v3 w3 own3 hb3 _ _ _; obtain ⟨A3,c3,rfl,_,_,_⟩:=own_form own3; have O3:=Lib.hid own3; clear own3)
    refine Handed.intro (16 - (i + 1)) ?_ (hJ1 _ _ _ (fun Φ hΦ=>hΦ _ _ _ _ _ _ _ _ _ _ _ _ _ _ _ _ (i + 1) (n + 1) (c3) (A3) ?_))
    ·have:=HI.out.1
     omega
    ·rw [HK.out,se]
     simp only [Bool.false_eq_true,if_false]
     refine ⟨by have:=HI.out.1; omega,by rw [List.length_append,← HI.out.2.1]; rfl,by have:=HI.out.2.2.1; omega, ?_,hb3⟩
     rw [show strv (D ++ [s]) = strv D ++ [.string ⟨s.toArray⟩] by simp [strv]]
     exact O3.out
  ·have e16 : i = 16:=by omega
   subst e16
   rw [List.take_of_length_le (by omega)] at h2 own
   have O:=Lib.hid (And.intro own hb)
   clear own hb
   go_wp2
   exact HQ.out _ _ _ _ _ _ _ _ _ _ _ _ _ _ _ _ _ _ _ _ _ _ h2 O.out.1 O.out.2
def KidsEnd (w : World) (K : List (List UInt8)) (e : Ending) (w' : World) : Prop :=
 ∃ A c n,e = .returned (.slice A n c) ∧ n = (kidsW K).length ∧ w'.ownsRow w.heap.size 9 1 (.slice A n c) n (strv (kidsW K)) ∧ Below w.heap.size w w'
set_option maxRecDepth 100000 in
theorem node_Kids (w : World) (nk np nv : Value) (h1 : nk.oneCell' = true) (h2 : np.oneCell' = true) (h3 : nv.oneCell' = true) (K : List (List UInt8)) (hK : K.length = 16) :
  Calls Tryz.prog 138 #[.agg (nk :: np :: nv :: strv K).toArray] w (KidsEnd w K):=by
 have HP : Hid (∀ A c n w',n = (kidsW K).length → w'.ownsRow w.heap.size 9 1 (.slice A n c) n (strv (kidsW K)) → Below w.heap.size w w' → KidsEnd w K (.returned (.slice A n c)) w'):=Lib.hid (fun A c n w' g1 g2 g3=>⟨A,c,n,rfl,g1,g2,g3⟩)
 have hsz : (strv K).length = 16:=by rw [strv_length,hK]
 generalize KidsEnd w K = P at HP ⊢
 go_enter Tryz.func138,Tryz.ntmps138
 have SZ : (Tryz.prog.info? 131).map (·.size) = some (strv K).length:=by rw [hsz]; exact size_arr
 have RNG : (w.alloc (.cells (nk :: np :: nv :: strv K).toArray 133)).rangeAt w.heap.size 3 (strv K):=fun j v hv=>by
  rw [World.cell?_alloc_at _ _ _ _ rfl]
  rw [show 3 + j = j + 1 + 1 + 1 by omega]
  simpa using hv
 go_upto_region 2 with fail
 go_upto_region 3 with (refine wpList_load_mid rfl 131 _ rfl w.heap.size 3 rfl (strv K) _ RNG Tryz.underlying131 rfl SZ ?_)
 refine kids_loop w (w.alloc (.cells (nk :: np :: nv :: strv K).toArray 133)) K hK (by go_grown) _ ?_ _ _ _ _ _ _ _ _ _ _ _ _ _ _ _ _
 intro s0 s1 s2 s4 s5 s6 s7 s8 s9 s10 s11 s12 s13 s14 s15 s16 s17 s18 A c n w2 g1 g2 g3
 go_wp2
 exact HP.out _ _ _ _ g1 g2 g3
end Go.Proofs.YtnelhjfjkkdoaaaGreatDoor
namespace Go.Proofs.YtnelhjfjkkdoaaaGreatDoor
open Go.RowKit Go.Instr
def noKidsV : Array Value:=#[.string ⟨#[]⟩,.string ⟨#[]⟩,.string ⟨#[]⟩,.string ⟨#[]⟩,.string ⟨#[]⟩,.string ⟨#[]⟩,.string ⟨#[]⟩,.string ⟨#[]⟩,.string ⟨#[]⟩,.string ⟨#[]⟩,.string ⟨#[]⟩,.string ⟨#[]⟩,.string ⟨#[]⟩,.string ⟨#[]⟩,.string ⟨#[]⟩,.string ⟨#[]⟩]
theorem noKidsV_eq : (strv (List.replicate 16 [])).toArray = noKidsV:=rfl
theorem mapM_some' {α β : Type} {f : α → Option β} {g : α → β} : ∀ l : List α,(∀ x ∈ l,f x = some (g x)) → l.mapM f = some (l.map g)
 | [],_=>rfl
 | a :: l,h=>by
  rw [List.mapM_cons,h a (by simp),mapM_some' l (fun x hx=>h x (by simp [hx]))]
  rfl
theorem keyLits_one (s : List UInt8) (h : s.length ≤ 9223372036854775807) : Program.keyLits Tryz.prog 39 9 [.string ⟨s.toArray⟩] = some [.string s]:=by
 have hm : (⟨s.toArray⟩ : ByteArray).size ≤ maxLen:=by show s.toArray.size ≤ maxLen; simp [maxLen]; omega
 unfold Program.keyLits
 rw [Tryz.underlying9]
 simp [hm]
theorem flat_single {α β : Type} (f : α → β) (l : List α) : (l.map fun a => [f a]).flatten = l.map f:=by
 induction l with
 | nil=>rfl
 | cons a l ih=>simp [ih]
theorem range_getD (K : List (List UInt8)) : (List.range K.length).map (fun i=>K.getD i []) = K:=by
 apply List.ext_getElem
 ·simp
 ·intro i h1 h2
  simp at h1
  simp [List.getD_eq_getElem?_getD,h1]
theorem keyLits_arr (K : List (List UInt8)) (hK : K.length = 16) (h : ∀ s ∈ K,s.length ≤ 9223372036854775807) : Program.keyLits Tryz.prog 40 131 (strv K) = some (K.map .string):=by
 have c9 : Tryz.prog.cellsOf 9 = 1:=by kernel_rfl
 have c85 : Tryz.prog.cellsOf 131 = 16:=by kernel_rfl
 have hs : (strv K).length = 16:=by rw [strv_length,hK]
 unfold Program.keyLits
 rw [Tryz.underlying131]
 simp only [c9,c85,hs,if_true]
 rw [mapM_some' (g:=fun i => [Lit.string (K.getD i [])])]
 ·rw [Option.map_some,flat_single]
  have:=range_getD K
  rw [hK] at this
  conv=>rhs; rw [← this]
  rw [List.map_map]
  rfl
 ·intro i hi
  have hi' : i < K.length:=by rw [hK]; simpa using hi
  have e : ((strv K).drop (i * 1)).take 1 = [.string ⟨(K.getD i []).toArray⟩]:=by
   rw [Nat.mul_one,List.drop_eq_getElem_cons (by rw [strv_length]; exact hi')]
   simp [strv,List.getD_eq_getElem?_getD,hi']
  rw [e]
  refine keyLits_one _ ?_
  rw [List.getD_eq_getElem?_getD,List.getElem?_eq_getElem hi']
  exact h _ (List.getElem_mem hi')
theorem lit_string_inj {K L : List (List UInt8)} : K.map Lit.string = L.map Lit.string ↔ K = L:=by
 constructor
 ·intro h
  exact List.map_inj_right (f:=Lit.string) (fun a b e=>by injection e) |>.1 h
 ·rintro rfl; rfl
set_option maxRecDepth 100000 in
theorem kids_eql (K L : List (List UInt8)) (hK : K.length = 16) (hL : L.length = 16) (h1 : ∀ s ∈ K,s.length ≤ 9223372036854775807) (h2 : ∀ s ∈ L,s.length ≤ 9223372036854775807) (w : World) :
  (Op.equalIn 10000 131 (.agg (strv K).toArray) (.agg (strv L).toArray)).run Tryz.prog w = .ok (decide (K = L)) w:=by
 have f1 : (Value.agg (strv K).toArray).cells.toList = strv K:=by simp [Value.cells]
 have f2 : (Value.agg (strv L).toArray).cells.toList = strv L:=by simp [Value.cells]
 have hf : ∀ M : List (List UInt8),M.length = 16 → (Value.agg (strv M).toArray).formed Tryz.prog 131 = true:=by
  intro M hM
  have c85 : Tryz.prog.cellsOf 131 = 16:=by kernel_rfl
  unfold Value.formed
  rw [Tryz.underlying131]
  simp [c85,strv_length,hM]
 have q:=run_equalIn_deep (P:=Tryz.prog) 9990 10 131 (by kernel_rfl)
 have q2:=q w 40 40 (.agg (strv K).toArray) (.agg (strv L).toArray) (K.map .string) (L.map .string)
 obtain ⟨r,g1,g2⟩:=q2 (hf K hK) (hf L hL) (by rw [f1]; exact keyLits_arr K hK h1) (by rw [f2]; exact keyLits_arr L hL h2)
 rw [lit_string_inj] at g2
 have hr : r = decide (K = L):=by
  rw [Bool.eq_iff_iff,g2]; simp
 rw [← hr]
 exact g1
end Go.Proofs.YtnelhjfjkkdoaaaGreatDoor
namespace Go.Proofs.YtnelhjfjkkdoaaaGreatDoor
open Go.RowKit Go.Instr
attribute [local go_sem] ba_get ByteArray.mk_append_mk
def fineN (k : Nat) (p v : List UInt8) (K : List (List UInt8)) : Bool :=
 if k = 1 then decide (K = List.replicate 16 []) && pathOk p 0 && !v.isEmpty && decide (v.length ≤ 32)
 else if k = 2 then decide (K = K.getD 0 [] :: List.replicate 15 []) && sumsOk [K.getD 0 []] && pathOk p 1 && v.isEmpty
 else if k = 3 then p.isEmpty && sumsOk (kidsW K) && decide (2 ≤ (kidsW K).length + (if v.isEmpty then 0 else 1)) && decide (v.length ≤ 32)
 else false
def nodeV (k : Nat) (p v : List UInt8) (K : List (List UInt8)) : List Value:=.int .i64 (k : Int) :: .string ⟨p.toArray⟩ :: .string ⟨v.toArray⟩ :: strv K
def CheckEnd (w : World) (b : Bool) (e : Ending) (w' : World) : Prop:=e = .returned (.int .i64 (if b then 0 else 80)) ∧ Below w.heap.size w w'
theorem info_node : (Tryz.prog.info? 133).map (·.size) = some 19:=by kernel_rfl
theorem nodeV_size {k : Nat} {p v : List UInt8} {K : List (List UInt8)} (hK : K.length = 16) : (nodeV k p v K).length = 19:=by simp [nodeV,strv_length,hK]
theorem oneKid_eq (s : List UInt8) : (strv (s :: List.replicate 15 [])).toArray = #[.string ⟨s.toArray⟩,.string ⟨#[]⟩,.string ⟨#[]⟩,.string ⟨#[]⟩,.string ⟨#[]⟩,.string ⟨#[]⟩,.string ⟨#[]⟩,.string ⟨#[]⟩,.string ⟨#[]⟩,.string ⟨#[]⟩,.string ⟨#[]⟩,.string ⟨#[]⟩,.string ⟨#[]⟩,.string ⟨#[]⟩,.string ⟨#[]⟩,.string ⟨#[]⟩]:=rfl
structure NodeAt (w : World) (B : Nat) (k : Nat) (p v : List UInt8) (K : List (List UInt8)) : Prop where
 c0 : w.cell? ⟨B,0,none⟩ = some (.int .i64 (k : Int))
 c1 : w.cell? ⟨B,1,none⟩ = some (.string ⟨p.toArray⟩)
 c2 : w.cell? ⟨B,2,none⟩ = some (.string ⟨v.toArray⟩)
 rng : w.rangeAt B 3 (strv K)
 all : w.rangeAt B 0 (nodeV k p v K)
theorem NodeAt.of {w : World} {B k : Nat} {p v : List UInt8} {K : List (List UInt8)} {C : List Value} {t : TypeId} (h : Blk w B t (nodeV k p v K ++ C).toArray) : NodeAt w B k p v K:=by
 have hc:=fun i=>h.cell i
 have hr : w.rangeAt B 0 (nodeV k p v K):=fun j u hu=>by
  rw [hc,Nat.zero_add]
  simp only [List.getElem?_toArray]
  rw [List.getElem?_append_left (by
   rcases Nat.lt_or_ge j (nodeV k p v K).length with hl | hl
   ·exact hl
   ·rw [List.getElem?_eq_none hl] at hu; cases hu)]
  exact hu
 exact ⟨hr 0 _ rfl,hr 1 _ rfl,hr 2 _ rfl,fun j u hu=>by
  have:=hr (j + 3) u (by simpa [nodeV] using hu)
  rwa [show 0 + (j + 3) = 3 + j by omega] at this,hr⟩
set_option maxRecDepth 100000 in
theorem check_leaf (p v : List UInt8) (hp : p.length ≤ 1048576) (hv : v.length ≤ 9223372036854775000) (K : List (List UInt8)) (hK : K.length = 16) (hKs : ∀ s ∈ K,s.length ≤ 9223372036854775807) (w : World) :
  Calls Tryz.prog 152 #[.agg (nodeV 1 p v K).toArray] w (CheckEnd w (fineN 1 p v K)):=by
 have HP : Hid (∀ b w',fineN 1 p v K = b → Below w.heap.size w w' → CheckEnd w (fineN 1 p v K) (.returned (.int .i64 (if b then 0 else 80))) w'):=Lib.hid (fun b w' h1 h2=>⟨by rw [h1],h2⟩)
 have HC:=node_Kids (nk:=.int .i64 1) (np:=.string ⟨p.toArray⟩) (nv:=.string ⟨v.toArray⟩) (h1:=rfl) (h2:=rfl) (h3:=rfl) (K:=K) (hK:=hK)
 have HPath:=fun w=>node_path p 0 (by omega) hp w
 have EQ:=fun w=>kids_eql K (List.replicate 16 []) hK rfl hKs (by simp) w
 rw [noKidsV_eq] at EQ
 unfold noKidsV at EQ
 have HSz:=Lib.hid (nodeV_size (k:=1) (p:=p) (v:=v) hK)
 have HSk:=Lib.hid (strv_length K)
 have HF : Hid (fineN 1 p v K = (decide (K = List.replicate 16 []) && pathOk p 0 && !v.isEmpty && decide (v.length ≤ 32))):=Lib.hid (by simp [fineN])
 generalize CheckEnd w (fineN 1 p v K) = P at HP ⊢
 generalize fineN 1 p v K = fb at *
 generalize pathOk p 0 = b1 at *
 generalize decide (K = List.replicate 16 []) = b0 at *
 go_enter Tryz.func152,Tryz.ntmps152
 go_upto_region 1 with fail
 have SZ : (Tryz.prog.info? 133).map (·.size) = some (nodeV 1 p v K).length:=by rw [HSz.out]; exact info_node
 have SZ2 : (Tryz.prog.info? 131).map (·.size) = some (strv K).length:=by rw [HSk.out,hK]; exact size_arr
 have F0 : Hid (Blk (w.alloc (.cells (nodeV 1 p v K).toArray 133)) w.heap.size 133 (nodeV 1 p v K).toArray ∧ Below w.heap.size w (w.alloc (.cells (nodeV 1 p v K).toArray 133))):=Lib.hid ⟨Blk.new _ _ _,by go_grown⟩
 generalize w.alloc (.cells (nodeV 1 p v K).toArray 133) = W0 at F0 ⊢
 have HB:=Lib.hid (show w.heap.size < W0.heap.size from F0.out.1.lt)
 obtain ⟨_,_,_,_,RA⟩:=NodeAt.of (C := []) (by rw [List.append_nil]; exact F0.out.1)
 generalize hB : w.heap.size = B at *
 clear hB
 go_upto_region 2 with (first | (refine wpList_load_mid rfl 133 _ rfl B 0 rfl _ _ RA Tryz.underlying133 rfl SZ ?_) | (go_at_call 138; refine (HC _).mono ?_; rintro e w1 ⟨A,c,n,rfl,hn,own,hb⟩; have OWN:=Lib.hid (And.intro hn own); clear hn own))
 have F1:=Lib.hid (show Below B w w1 from by have:=F0.out.2.trans (hb.mono (Nat.le_of_lt HB.out)); exact this)
 obtain ⟨_,q1,q2,RK,_⟩:=NodeAt.of (C := []) (by rw [List.append_nil]; exact F0.out.1.below hb HB.out)
 have HB1 : B < w1.heap.size:=Nat.lt_of_lt_of_le HB.out hb.size
 clear hb F0 RA SZ
 have T : Hid (∀ b w',fb = b → Below B w w' → P (Ending.returned (.int .i64 (if b then 0 else 80))) w'):=HP
 clear HP
 cases b0 with
 | false =>
  go_wp2_with (refine wpList_load_mid rfl 131 _ rfl B 3 rfl _ _ RK Tryz.underlying131 rfl SZ2 ?_)
  exact T.out false _ (by rw [HF.out]; try rfl) F1.out
 | true =>
  cases b1 with
  | false =>
   go_wp2_with (first | (refine wpList_load_mid rfl 131 _ rfl B 3 rfl _ _ RK Tryz.underlying131 rfl SZ2 ?_) | (go_at_call 183; refine (HPath _).mono ?_; rintro e w2 ⟨rfl,rfl⟩))
   exact T.out false _ (by rw [HF.out]; try rfl) F1.out
  | true =>
   by_cases hv0 : v = []
   ·subst hv0
    go_wp2_with (first | (refine wpList_load_mid rfl 131 _ rfl B 3 rfl _ _ RK Tryz.underlying131 rfl SZ2 ?_) | (go_at_call 183; refine (HPath _).mono ?_; rintro e w2 ⟨rfl,rfl⟩))
    exact T.out false _ (by rw [HF.out]; try rfl) F1.out
   ·have ne1 : (v.toArray = #[]) = False:=by simp [hv0]
    have HE : v.isEmpty = false:=by simp [hv0]
    by_cases h32 : v.length ≤ 32
    ·have h32' : (v.length : Int) ≤ 32:=by omega
     go_wp2_with (first | (refine wpList_load_mid rfl 131 _ rfl B 3 rfl _ _ RK Tryz.underlying131 rfl SZ2 ?_) | (go_at_call 183; refine (HPath _).mono ?_; rintro e w2 ⟨rfl,rfl⟩))
     exact T.out true _ (by rw [HF.out,HE]; simp [h32]) F1.out
    ·have h32' : ((v.length : Int) ≤ 32) = False:=by simp; omega
     go_wp2_with (first | (refine wpList_load_mid rfl 131 _ rfl B 3 rfl _ _ RK Tryz.underlying131 rfl SZ2 ?_) | (go_at_call 183; refine (HPath _).mono ?_; rintro e w2 ⟨rfl,rfl⟩))
     exact T.out false _ (by rw [HF.out,HE]; simp [h32]) F1.out
set_option maxRecDepth 100000 in
theorem check_ext (p v : List UInt8) (hp : p.length ≤ 1048576) (hv : v.length ≤ 9223372036854775000) (K : List (List UInt8)) (hK : K.length = 16) (hKs : ∀ s ∈ K,s.length ≤ 9223372036854775807) (w : World) :
  Calls Tryz.prog 152 #[.agg (nodeV 2 p v K).toArray] w (CheckEnd w (fineN 2 p v K)):=by
 have HP : Hid (∀ b w',fineN 2 p v K = b → Below w.heap.size w w' → CheckEnd w (fineN 2 p v K) (.returned (.int .i64 (if b then 0 else 80))) w'):=Lib.hid (fun b w' h1 h2=>⟨by rw [h1],h2⟩)
 have HC:=node_Kids (nk:=.int .i64 2) (np:=.string ⟨p.toArray⟩) (nv:=.string ⟨v.toArray⟩) (h1:=rfl) (h2:=rfl) (h3:=rfl) (K:=K) (hK:=hK)
 have HSz:=Lib.hid (nodeV_size (k:=2) (p:=p) (v:=v) hK)
 have HSk:=Lib.hid (strv_length K)
 have HPath:=fun w=>node_path p 1 (by omega) hp w
 have EQ:=fun w=>kids_eql K (K.getD 0 [] :: List.replicate 15 []) hK rfl hKs (by
  intro s hs
  rcases List.mem_cons.1 hs with rfl | hs
  ·rcases K with _ | ⟨a,K⟩
   ·simp at hK
   ·exact hKs _ (by simp)
  ·rw [List.eq_of_mem_replicate hs]; simp) w
 rw [oneKid_eq] at EQ
 have HK0:=Lib.hid (strv_at (l:=K) (i:=0) (by omega))
 have HK1:=Lib.hid (show K[0]'(by omega) = K.getD 0 [] by rw [List.getD_eq_getElem?_getD,List.getElem?_eq_getElem (show 0 < K.length by omega)]; rfl)
 have HSums:=node_sums [K.getD 0 []] (by simp)
 have HF : Hid (fineN 2 p v K = (decide (K = K.getD 0 [] :: List.replicate 15 []) && sumsOk [K.getD 0 []] && pathOk p 1 && v.isEmpty)):=Lib.hid (by simp [fineN])
 generalize CheckEnd w (fineN 2 p v K) = P at HP ⊢
 generalize fineN 2 p v K = fb at *
 generalize pathOk p 1 = b1 at *
 generalize sumsOk [K.getD 0 []] = b2 at *
 generalize decide (K = K.getD 0 [] :: List.replicate 15 []) = b0 at *
 go_enter Tryz.func152,Tryz.ntmps152
 go_upto_region 1 with fail
 have SZ : (Tryz.prog.info? 133).map (·.size) = some (nodeV 2 p v K).length:=by rw [HSz.out]; exact info_node
 have SZ2 : (Tryz.prog.info? 131).map (·.size) = some (strv K).length:=by rw [HSk.out,hK]; exact size_arr
 have F0 : Hid (Blk (w.alloc (.cells (nodeV 2 p v K).toArray 133)) w.heap.size 133 (nodeV 2 p v K).toArray ∧ Below w.heap.size w (w.alloc (.cells (nodeV 2 p v K).toArray 133))):=Lib.hid ⟨Blk.new _ _ _,by go_grown⟩
 generalize w.alloc (.cells (nodeV 2 p v K).toArray 133) = W0 at F0 ⊢
 have HB:=Lib.hid (show w.heap.size < W0.heap.size from F0.out.1.lt)
 obtain ⟨_,_,_,_,RA⟩:=NodeAt.of (C := []) (by rw [List.append_nil]; exact F0.out.1)
 generalize hB : w.heap.size = B at *
 clear hB
 go_upto_region 2 with (first | (refine wpList_load_mid rfl 133 _ rfl B 0 rfl _ _ RA Tryz.underlying133 rfl SZ ?_) | (go_at_call 138; refine (HC _).mono ?_; rintro e w1 ⟨A,c,n,rfl,hn,own,hb⟩; have OWN:=Lib.hid (And.intro hn own); clear hn own))
 have F1:=Lib.hid (show Below B w w1 from by have:=F0.out.2.trans (hb.mono (Nat.le_of_lt HB.out)); exact this)
 obtain ⟨_,q1,q2,RK,_⟩:=NodeAt.of (C := []) (by rw [List.append_nil]; exact F0.out.1.below hb HB.out)
 have HB1 : B < w1.heap.size:=Nat.lt_of_lt_of_le HB.out hb.size
 clear hb F0 RA SZ
 have T : Hid (∀ b w',fb = b → Below B w w' → P (Ending.returned (.int .i64 (if b then 0 else 80))) w'):=HP
 clear HP
 have q3 : w1.cell? ⟨B,3,none⟩ = some (.string ⟨(K.getD 0 []).toArray⟩):=by
  have:=RK 0 _ HK0.out
  rwa [HK1.out] at this
 have HS1:=HSums w1 (some ⟨B,3,none⟩) 16 ⟨by simp [strv],fun _=>⟨_,rfl,HB1,fun j u hu=>by
  rcases j with _ | j
  ·rw [Addr.add_mid]; simp [strv] at hu; rw [← hu]; exact q3
  ·simp [strv] at hu⟩⟩
 clear HSums HK0 HK1
 generalize K.getD 0 [] = s0 at *
 replace HS1 : Calls Tryz.prog 184 #[.slice (some ⟨B,3,none⟩) 1 16] w1 fun e w'=>e = .returned (.bool b2) ∧ w1 = w':=HS1
 cases b0 with
 | false =>
  go_wp2_with (refine wpList_load_mid rfl 131 _ rfl B 3 rfl _ _ RK Tryz.underlying131 rfl SZ2 ?_)
  exact T.out false _ (by rw [HF.out]; try rfl) F1.out
 | true =>
  cases b2 with
  | false =>
   go_wp2_with (first | (refine wpList_load_mid rfl 131 _ rfl B 3 rfl _ _ RK Tryz.underlying131 rfl SZ2 ?_) | (go_at_call 184; refine HS1.mono ?_; rintro e w2 ⟨rfl,rfl⟩))
   exact T.out false _ (by rw [HF.out]; try rfl) F1.out
  | true =>
   cases b1 with
   | false =>
    go_wp2_with (first | (refine wpList_load_mid rfl 131 _ rfl B 3 rfl _ _ RK Tryz.underlying131 rfl SZ2 ?_) | (go_at_call 184; refine HS1.mono ?_; rintro e w2 ⟨rfl,rfl⟩) | (go_at_call 183; refine (HPath _).mono ?_; rintro e w2 ⟨rfl,rfl⟩))
    exact T.out false _ (by rw [HF.out]; try rfl) F1.out
   | true =>
    by_cases hv0 : v = []
    ·subst hv0
     go_wp2_with (first | (refine wpList_load_mid rfl 131 _ rfl B 3 rfl _ _ RK Tryz.underlying131 rfl SZ2 ?_) | (go_at_call 184; refine HS1.mono ?_; rintro e w2 ⟨rfl,rfl⟩) | (go_at_call 183; refine (HPath _).mono ?_; rintro e w2 ⟨rfl,rfl⟩))
     exact T.out true _ (by rw [HF.out]; try rfl) F1.out
    ·have ne1 : (v.toArray = #[]) = False:=by simp [hv0]
     have HE : v.isEmpty = false:=by simp [hv0]
     go_wp2_with (first | (refine wpList_load_mid rfl 131 _ rfl B 3 rfl _ _ RK Tryz.underlying131 rfl SZ2 ?_) | (go_at_call 184; refine HS1.mono ?_; rintro e w2 ⟨rfl,rfl⟩) | (go_at_call 183; refine (HPath _).mono ?_; rintro e w2 ⟨rfl,rfl⟩))
     exact T.out false _ (by rw [HF.out,HE]; try rfl) F1.out
end Go.Proofs.YtnelhjfjkkdoaaaGreatDoor
