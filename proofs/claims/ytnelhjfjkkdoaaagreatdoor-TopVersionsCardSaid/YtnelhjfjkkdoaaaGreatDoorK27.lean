import Derived.Test.YtnelhjfjkkdoaaaGreatDoorK23
import Derived.Test.YtnelhjfjkkdoaaaGreatDoorK26
import Derived.Test.YtnelhjfjkkdoaaaGreatDoorShelf
set_option linter.unusedSimpArgs false
set_option linter.unusedVariables false
set_option maxHeartbeats 4000000
namespace Go.Proofs.YtnelhjfjkkdoaaaGreatDoor
section
open Go.RowKit Go.Instr
attribute [local go_sem] ba_get ByteArray.mk_append_mk
attribute [local go_sem ↓] Go.wp_at_zero Go.wp_at_succ
open Go.Shelf in
theorem sorts_S (m : Nat) : AnyZ.SortsIn Tryz.prog Tryz.sortedS_ren Fence.wide m :=
  ⟨fun blk off cap ss W hH hblk hsz => callsIn_wide.2 (AnyM.slices_Sort_string Tryz.sortS blk off cap ss W hH hblk hsz),
   fun p cap W => callsIn_wide.2 (AnyM.slices_Sort_string_none Tryz.sortS p cap W)⟩
open Go.Shelf in
theorem sorts_N (m : Nat) : AnyZI.SortsIn Tryz.prog Tryz.sortedN_ren Fence.wide m :=
  ⟨fun blk off cap ss W hH hblk hsz => callsIn_wide.2 (AnyM.slices_Sort_int Tryz.sortN blk off cap ss W hH hblk hsz),
   fun p cap W => callsIn_wide.2 (AnyM.slices_Sort_int_none Tryz.sortN p cap W)⟩
theorem Ents.mem {w:World}:∀ {D:List Trie.KV} {vs:List (List UInt8 × Value)},Ents w D vs→vs.map (·.1)=D.map (·.1)
 | [],[],_=>rfl
 | [],_::_,h=>h.elim
 |_::_,[],h=>h.elim
 |x::D,y::vs,h=>by simp [h.1,Ents.mem h.2.2]
def SumsEnd (w:World) (K:List (List UInt8)) (e:Ending) (w':World):Prop:=∃ (v:Value) (ss:List (List UInt8)),e= .returned v∧ss.Perm K∧w'.ownsRow w.heap.size 9 1 v ss.length (strv ss)∧Below w.heap.size w w'
theorem store_Sums (w:World) (g b:Nat) (D:List Trie.KV) (h:StoreP w g b D) (hk:∀ x∈D,x.1.length≤100) (hl:D.length≤100000):
  Calls Tryz.prog 105 #[.pointer (some ⟨g,0,none⟩)] w (SumsEnd w (D.map (·.1))):=by
 obtain ⟨vs,hm,he⟩:=h.map.ex;have hvk:=he.mem;have hlen:vs.length=D.length:=he.length;obtain ⟨D0,hown,hperm,hsize⟩:=hm.owns_ss (fun x hx=>by
  have:x.1∈D.map (·.1):=by rw [←hvk]; exact List.mem_map.2 ⟨x,hx,rfl⟩
  obtain ⟨y,hy,e⟩:=List.mem_map.1 this
  have:=hk y hy
  rw [e] at this;simp only [maxLen]; omega) (by simp only [maxLen]; omega)
 rw [hvk] at hperm;have HP:Hid (∀ (v:Value) (ss:List (List UInt8)) w',ss.Perm (strKeys D0)→w'.ownsRow w.heap.size 9 1 v ss.length (strv (ss.mergeSort fun x y=>decide (x≤y)))→Below w.heap.size w w'→SumsEnd w (D.map (·.1)) (Ending.returned v) w'):=ι (fun v ss w' h1 h2 h3=>by
  refine ⟨v,ss.mergeSort fun x y=>decide (x≤y),rfl,((List.mergeSort_perm _ _).trans h1).trans hperm,?_,h3⟩;rw [List.length_mergeSort];exact h2)
 generalize SumsEnd w (D.map (·.1))=P at HP ⊢;have hbl:=hown.lt;have c0:w.cell? ⟨g,0,none⟩=some (.map (some b)):=h.blk.cell 0;have hseq:SeqGives Fence.wide 2 Tryz.prog 168 #[.pointer (some ⟨w.heap.size,0,none⟩)] encStr (fun ss=>ss.Perm (strKeys D0)) (Maps.size D0) (w.alloc (.cells #[.map (some b)] 176)):=
  AnyZ.keys_gives (ρ:=Tryz.keysS_ren) {Tryz.keysS with} Fence.wide _ trivial rfl (by omega) w.heap.size b vs.length D0 _ (by simp) (by simp) (by
   obtain ⟨es,clock,hb,Ft,hs,hD⟩:=hown;exact ⟨es,clock,(Below.heap_alloc _ _ b hbl).trans hb,Ft,hs,hD⟩)
 have cK:Calls Tryz.prog 140 #[.map (some b)] w fun e w'=>e= .returned (.func (.func 168) #[] #[.pointer (some ⟨w.heap.size,0,none⟩)])∧w'=w.alloc (.cells #[.map (some b)] 176):=(callsIn_wide (n:=5)).1 (AnyZ.keys_in Tryz.keysS Fence.wide 5 trivial rfl (some b) w);have cS:=AnyZ.sorted_in Tryz.sortedS Fence.wide 5 trivial trivial trivial trivial rfl (by omega) (sorts_S _) (enters_of Tryz.func167 (by kernel_rfl) rfl) 168 #[.pointer (some ⟨w.heap.size,0,none⟩)] trivial (enters_of Tryz.func168 (by kernel_rfl) rfl) _ _ (by rw [hsize]; simp only [maxLen]; omega) (by rw [hsize]; omega) _ hseq;have HS:=ι ((callsIn_wide (n:=5)).1 cS);have HKy:=ι cK;clear cS cK hseq hown hperm hsize he hm hvk hbl h;go_enter Tryz.func105,Tryz.ntmps105
 go_wp2_with fail
 refine HKy.out.mono ?_;rintro e w1 ⟨rfl,rfl⟩;go_wp2_with fail
 refine HS.out.mono ?_;rintro e w2 ⟨v,ss,rfl,hS,hrow,hnil,hb⟩;have H2:=ι (And.intro hS (And.intro (own_lower hrow (show w.heap.size≤(w.alloc (.cells #[.map (some b)] 176)).heap.size by simp)) (((Below.refl _ w).alloc (Nat.le_refl _) (.cells #[.map (some b)] 176)).nxt hb)));clear hS hrow hnil hb HS HKy;go_wp2_with fail
 exact HP.out v ss w2 H2.out.1 H2.out.2.1 H2.out.2.2
def HeightsEnd (w:World) (K:List Nat) (e:Ending) (w':World):Prop:=∃ (v:Value) (ss:List Int),e= .returned v∧ss.Perm (K.map fun (n:Nat)=>(n:Int))∧ss.Pairwise (fun x y=>decide (x≤y)=true)∧w'.ownsRow w.heap.size 3 1 v ss.length (ss.map encZ)∧Below w.heap.size w w'
theorem vers_Heights (w:World) (vb g b rb:Nat) (T:Trie.T) (D:List Trie.KV) (R:List (Nat × List UInt8)) (last below:Int) (h:VersP w vb g b rb T D R last below) (hk:∀ x∈R,x.1≤1048576) (hl:R.length≤100000):
  Calls Tryz.prog 17 #[.pointer (some ⟨vb,0,none⟩)] w (HeightsEnd w (R.map (·.1))):=by
 obtain ⟨vs,hm,he⟩:=h.rm.ex;have hvk:=he.keys;have hlen:vs.length=R.length:=by have:=congrArg List.length he.keys; simpa using this
 obtain ⟨D0,hown,hperm,hsize⟩:=hm.owns_ik (fun x hx=>by
  have:x.1∈R.map (·.1):=by rw [←hvk]; exact List.mem_map.2 ⟨x,hx,rfl⟩
  obtain ⟨y,hy,e⟩:=List.mem_map.1 this
  have:=hk y hy
  rw [e] at this;exact this) (by simp only [maxLen]; omega)
 have e2:(vs.map fun x=>(x.1:Int))=(R.map (·.1)).map fun (n:Nat)=>(n:Int):=by rw [←hvk,List.map_map]; rfl
 rw [e2] at hperm;have HP:Hid (∀ (v:Value) (ss:List Int) w',ss.Perm (intKeys D0)→w'.ownsRow w.heap.size 3 1 v ss.length ((ss.mergeSort fun x y=>decide (x≤y)).map encZ)→Below w.heap.size w w'→HeightsEnd w (R.map (·.1)) (Ending.returned v) w'):=ι (fun v ss w' h1 h2 h3=>by
  refine ⟨v,ss.mergeSort fun x y=>decide (x≤y),rfl,((List.mergeSort_perm _ _).trans h1).trans hperm,?_,?_,h3⟩
  ·exact List.pairwise_mergeSort (le:=fun x y=>decide (x≤y)) (fun a b c h1 h2=>by simp only [decide_eq_true_eq] at *; omega) (fun a b=>by simp only [Bool.or_eq_true,decide_eq_true_eq]; omega) ss
  ·rw [List.length_mergeSort];exact h2)
 generalize HeightsEnd w (R.map (·.1))=P at HP ⊢;have hbl:=hown.lt;have c0:w.cell? ⟨vb,1,none⟩=some (.map (some rb)):=by obtain ⟨nt,hb1,_⟩:=h.blk; exact hb1.cell 1
 have hseq:SeqGives Fence.wide 2 Tryz.prog 108 #[.pointer (some ⟨w.heap.size,0,none⟩)] encZ (fun ss=>ss.Perm (intKeys D0)) (Maps.size D0) (w.alloc (.cells #[.map (some rb)] 110)):=
  AnyZI.keys_gives (ρ:=Tryz.keysN_ren) {Tryz.keysN with} Fence.wide _ trivial rfl (by omega) w.heap.size rb vs.length D0 _ (by simp) (by simp) (by
   obtain ⟨es,clock,hb,Ft,hs,hD⟩:=hown;exact ⟨es,clock,(Below.heap_alloc _ _ rb hbl).trans hb,Ft,hs,hD⟩)
 have cK:Calls Tryz.prog 63 #[.map (some rb)] w fun e w'=>e= .returned (.func (.func 108) #[] #[.pointer (some ⟨w.heap.size,0,none⟩)])∧w'=w.alloc (.cells #[.map (some rb)] 110):=(callsIn_wide (n:=5)).1 (AnyZI.keys_in Tryz.keysN Fence.wide 5 trivial rfl (some rb) w);have cS:=AnyZI.sorted_in Tryz.sortedN Fence.wide 5 trivial trivial trivial trivial rfl (by omega) (sorts_N _) (enters_of Tryz.func107 (by kernel_rfl) rfl) 108 #[.pointer (some ⟨w.heap.size,0,none⟩)] trivial (enters_of Tryz.func108 (by kernel_rfl) rfl) _ _ (by rw [hsize]; simp only [maxLen]; omega) (by rw [hsize]; omega) _ hseq;have HS:=ι ((callsIn_wide (n:=5)).1 cS);have HKy:=ι cK;clear cS cK hseq hown hperm hsize he hm hvk hbl h e2;go_enter Tryz.func17,Tryz.ntmps17
 go_wp2_with fail
 refine HKy.out.mono ?_;rintro e w1 ⟨rfl,rfl⟩;go_wp2_with fail
 refine HS.out.mono ?_;rintro e w2 ⟨v,ss,rfl,hS,hrow,hnil,hb⟩;have H2:=ι (And.intro hS (And.intro (own_lower hrow (show w.heap.size≤(w.alloc (.cells #[.map (some rb)] 110)).heap.size by simp)) (((Below.refl _ w).alloc (Nat.le_refl _) (.cells #[.map (some rb)] 110)).nxt hb)));clear hS hrow hnil hb HS HKy;go_wp2_with fail
 exact HP.out v ss w2 H2.out.1 H2.out.2.1 H2.out.2.2
end
end Go.Proofs.YtnelhjfjkkdoaaaGreatDoor