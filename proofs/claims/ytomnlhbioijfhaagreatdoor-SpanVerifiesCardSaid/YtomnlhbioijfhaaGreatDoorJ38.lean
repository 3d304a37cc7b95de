import Derived.Test.YtomnlhbioijfhaaGreatDoorJ27
import Derived.Test.YtomnlhbioijfhaaGreatDoorJ37
import Derived.Test.YtomnlhbioijfhaaGreatDoorJ26
import Derived.Test.YtomnlhbioijfhaaGreatDoorJ20
import Derived.Test.YtomnlhbioijfhaaGreatDoorJ21
set_option linter.unusedSimpArgs false
set_option linter.unusedVariables false
namespace Go.Proofs.YtomnlhbioijfhaaGreatDoor
open Go.RowKit Go.Instr
attribute [local go_sem] ba_get ByteArray.mk_append_mk
set_option maxRecDepth 100000 in
theorem str_size (w : World) : (sizeOf 9).run Tryz.prog w = .ok 1 w:=by
 go_simp
 try rfl
end Go.Proofs.YtomnlhbioijfhaaGreatDoor
namespace Go.Proofs.YtomnlhbioijfhaaGreatDoor
open Go.RowKit Go.Instr
namespace Trie
end Trie
theorem told_700m {t : Trie.T} (h : Trie.Good t) (may : List UInt8 → Bool) : ∀ x ∈ toldW may t,x.length ≤ 700:=by
 have key : ∀ (t : Trie.T) (pl : List UInt8),Trie.At pl t → ∀ x ∈ Trie.goT may t pl,(Trie.textT x.2).length ≤ 700:=by
  have one : ∀ (t : Trie.T) (pl : List UInt8),Trie.At pl t → t ≠ .nil → (Trie.textT t).length ≤ 700:=fun t pl ha hn=>nodeText_len (Trie.sumsT_length t) (Trie.fineT hn ha.wf ha.small)
  intro t
  induction t with
  | nil=>intro pl _ x hx; cases hx
  | leaf p v =>
   intro pl ha x hx
   simp only [Trie.goT] at hx
   split at hx
   ·rw [List.mem_singleton] at hx
    subst hx
    exact one _ _ ha (by simp)
   ·cases hx
  | ext p t ih =>
   intro pl ha x hx
   simp only [Trie.goT] at hx
   split at hx
   ·rcases List.mem_cons.1 hx with rfl | hx
    ·exact one _ _ ha (by simp)
    ·exact ih _ ha.below x hx
   ·cases hx
  | branch v kids ih =>
   intro pl ha x hx
   simp only [Trie.goT] at hx
   split at hx
   ·rcases List.mem_cons.1 hx with rfl | hx
    ·exact one _ _ ha (by simp)
    ·obtain ⟨i,_,hx⟩:=List.mem_flatMap.1 hx
     exact ih i _ (ha.kid i) x hx
   ·cases hx
 intro x hx
 unfold toldW textsD at hx
 obtain ⟨y,hy,rfl⟩:=List.mem_map.1 hx
 exact key t [] (Trie.At.top h) y hy
end Go.Proofs.YtomnlhbioijfhaaGreatDoor
namespace Go.Proofs.YtomnlhbioijfhaaGreatDoor
open Go.RowKit Go.Instr
attribute [local go_sem] ba_get ByteArray.mk_append_mk
def behindV : Value:=.string ⟨#[98,101,104,105,110,100]⟩
theorem reads_pre {w : World} {B n m : Nat} {A : Option Addr} {xs ys : List Value} (h : Reads w B 1 A (n + m) (xs ++ ys)) (hx : xs.length = n) : Reads w B 1 A n xs:=by
 refine ⟨by omega,fun h0 => ?_⟩
 obtain ⟨a,e,hb,hc⟩:=h.2 (by omega)
 refine ⟨a,e,hb,fun j u hu=>hc j u ?_⟩
 have:=(List.getElem?_eq_some_iff.1 hu).1
 rw [List.getElem?_append_left this]
 exact hu
def LendEnd (w : World) (l : List (List UInt8)) (e : Ending) (w' : World) : Prop :=
 ∃ g c,e = .returned (.slice (some ⟨g,0,none⟩) l.length c) ∧ l.length + 1 ≤ c ∧ Reads w' w'.heap.size 1 (some ⟨g,0,none⟩) (l.length + 1) (strv l ++ [behindV]) ∧ Below w.heap.size w w'
set_option maxRecDepth 100000 in
theorem book_Lend (w : World) (A : Option Addr) (c : Nat) (l : List (List UInt8)) (HR : Reads w w.heap.size 1 A l.length (strv l)) (hn : l.length ≤ 100000) :
  Calls Tryz.prog 8 #[.slice A l.length c] w (LendEnd w l):=by
 have HP : Hid (∀ g c w',l.length + 1 ≤ c → Reads w' w'.heap.size 1 (some ⟨g,0,none⟩) (l.length + 1) (strv l ++ [behindV]) → Below w.heap.size w w' → LendEnd w l (.returned (.slice (some ⟨g,0,none⟩) l.length c)) w'):=Lib.hid (fun g c w' h1 h2 h3=>⟨g,c,rfl,h1,h2,h3⟩)
 generalize LendEnd w l = P at HP ⊢
 have HL : Hid (strv l = strv l):=Lib.hid rfl
 have hlen:=strv_length l
 have hone0:=strv_one l
 have hone : ∀ u ∈ [behindV],u.oneCell' = true:=by intro u hu; rw [List.mem_singleton] at hu; subst hu; rfl
 generalize strv l = SV at *
 have hi0 : (0 : Int) ≤ l.length:=by omega
 have hi1 : (0 : Int) ≤ 1:=by omega
 obtain ⟨i0,hi0',hz0,hz1,hz2⟩:=info_parts info_str
 go_enter Tryz.func8,Tryz.ntmps8
 go_upto_region 2 with fail
 go_upto_region 3 with (at_builtin; refine wpList_append_any w rfl _ _ 25 rfl w.heap.size 9 i0 _ 1 16 Tryz.underlying25 hi0' hz0 hz1 hz2 rfl (by decide) (.slice none 0 0) 0 [] rfl (World.ownsRow_nil _ _ _ _) w.heap.size A l.length c SV rfl HR hone0 (by simp only [maxLen]; omega) (by omega) (Nat.le_refl _) ?_; intro v3 w3 own3 hg3 _; rw [Nat.zero_add,List.nil_append] at own3; obtain ⟨A3,c3,rfl,_,_,_⟩:=own_form own3; have O3:=Lib.hid own3; have B3 : Hid (Below w.heap.size w w3):=Lib.hid ((Below.refl _ _).grown hg3 (Nat.le_refl _) (by intro k e; cases e)); clear own3 hg3)
 have b3:=B3.out
 have o3:=O3.out
 go_upto_region 4 with (at_builtin; refine wpList_append_new w3 9 [behindV] rfl _ _ 25 rfl w.heap.size 1 16 _ info_str Tryz.underlying25 rfl (by decide) (.slice A3 l.length c3) l.length SV rfl o3 1 1 rfl rfl hone (by simp only [maxLen]; omega) (by omega) w.heap.size w b3 (Nat.le_refl _) b3.size ?_; intro v4 w4 own4 hb4 _ _ _; have O4:=Lib.hid (And.intro own4 hb4); clear own4 hb4)
 obtain ⟨own4,hb4⟩:=O4.out
 rcases own4.2 with ⟨rfl,h0⟩ | ⟨g,cap,cur,rfl,_,_,hcap,_⟩
 ·omega
 have hr:=Reads.of_own own4
 have hB:=Lib.hid hb4
 have hR:=Lib.hid hr
 have hC:=Lib.hid hcap
 have hc1 : (l.length : Int) ≤ cap:=by omega
 clear own4 hb4 hr O4 o3 b3 O3 B3 hcap
 go_wp2_with fail
 exact HP.out _ _ _ hC.out hR.out hB.out
set_option maxRecDepth 100000 in
theorem book_Kept (w : World) (A : Option Addr) (g c d : Nat) (l : List (List UInt8)) (HO : Reads w w.heap.size 1 (some ⟨g,0,none⟩) (l.length + 1) (strv l ++ [behindV])) (hc : l.length + 1 ≤ c) (HR : Reads w w.heap.size 1 A l.length (strv l)) (hn : l.length ≤ 100000) :
  Calls Tryz.prog 13 #[.slice (some ⟨g,0,none⟩) l.length c,.slice A l.length d] w (Ret w (.bool true)):=by
 have HP : Hid (∀ w',Below w.heap.size w w' → Ret w (.bool true) (.returned (.bool true)) w'):=Lib.hid (fun w' h=>⟨rfl,h⟩)
 generalize Ret w (.bool true) = P at HP ⊢
 have HSm:=Lib.hid (book_SameTexts (some ⟨g,0,none⟩) A l.length l.length c d l l w (reads_pre HO (strv_length l)) HR (by omega) (by omega))
 rw [decide_eq_true rfl] at HSm
 have hcell : w.cell? ⟨g,l.length,none⟩ = some behindV ∧ g < w.heap.size:=by
  obtain ⟨a,e,hb,hc⟩:=HO.2 (by omega)
  injection e with e
  subst e
  have:=hc l.length behindV (by rw [List.getElem?_append_right (by rw [strv_length]; exact Nat.le_refl _),strv_length,Nat.sub_self]; rfl)
  rw [show (Addr.mk g 0 none).add l.length = ⟨g,l.length,none⟩ by simp only [Addr.add,Nat.zero_add]; split <;> simp_all] at this
  exact ⟨this,hb⟩
 have HCl:=Lib.hid hcell
 have hi0 : (0 : Int) ≤ l.length:=by omega
 have hi1 : (0 : Int) ≤ l.length + 1:=by omega
 have hi2 : (l.length : Int) + 1 ≤ c:=by omega
 have hi3 : (l.length : Int) < l.length + 1:=by omega
 clear hcell HO HR hc
 go_enter Tryz.func13,Tryz.ntmps13
 go_wp2_with fail
 refine HSm.out.mono ?_
 rintro e w2 ⟨rfl,hb2⟩
 have c2 : w2.cell? ⟨g,l.length,none⟩ = some behindV:=(hb2.cell (p:=⟨g,l.length,none⟩) HCl.out.2).trans HCl.out.1
 have B2:=Lib.hid hb2
 unfold behindV at c2
 clear hb2
 go_wp2_with fail
 exact HP.out _ B2.out
end Go.Proofs.YtomnlhbioijfhaaGreatDoor
