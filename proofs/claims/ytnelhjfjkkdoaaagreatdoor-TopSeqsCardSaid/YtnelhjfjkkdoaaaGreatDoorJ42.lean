import Derived.Test.YtnelhjfjkkdoaaaGreatDoorJ41
set_option linter.unusedSimpArgs false
set_option linter.unusedVariables false
set_option maxHeartbeats 4000000
set_option maxRecDepth 100000
namespace Go.Proofs.YtnelhjfjkkdoaaaGreatDoor
section
open Go.RowKit Go.Instr Go.ChangeMaps
attribute [local go_sem] ba_get ByteArray.mk_append_mk
attribute [local go_sem ↓] Go.wp_at_zero Go.wp_at_succ
def keepsT:Trie.T:=Trie.put .nil (Nib.of [107]) [118]
theorem keeps_good:Trie.Good keepsT∧Trie.count keepsT≤1:=by
 refine ⟨Trie.Good.nil.put (by decide) (by decide) (by decide),?_⟩
 have:=Trie.count_put .nil (Nib.of [107]) [118]
 simpa [Trie.count,keepsT] using this
theorem keeps_commit:commitT .nil [([107],[118])]=(keepsT,0):=by
 unfold commitT commitT changedW;rw [if_pos (by decide)];rw [if_pos (by decide)];rfl
theorem keeps_load:loadR (saveD [] (toldW allW keepsT)) (Trie.sumT keepsT)=(keepsT,0):=by
 have hg:=keeps_good;have h1:toldW allW keepsT= [[1,1,2,32,107,1,1,118]]:=by decide+kernel
 have hD:∀ k s,lookB (saveD [] (toldW allW keepsT)) k=some s→s∈toldW allW keepsT:=fun k s h=>by
  have hm:(k,s)∈saveD [] (toldW allW keepsT):=by
   have:∀ D:List Trie.KV,lookB D k=some s→(k,s)∈D:=by
    intro D
    induction D with
    |nil=>intro h; cases h
    |cons x D ih=>
     intro h;rw [lookB] at h
     split at h
     ·rename_i e; injection h with h; subst h; subst e; exact List.mem_cons_self
     ·exact List.mem_cons_of_mem _ (ih h)
   exact this _ h
  rcases saveD_mem hm with h|h
  ·cases h
  ·exact h
 rcases load_back (D:=saveD [] (toldW allW keepsT)) (l:=toldW allW keepsT) hg.1 (by omega) (saveD_true (fun k s h=>by cases h)) (fun x h=>h) hD (fun x h=>saveD_has h) with hu|h
 ·rw [h1] at hu;exact absurd hu (by decide+kernel)
 ·exact h
theorem keeps_prove:proveW keepsT [107]=([[1,1,2,32,107,1,1,118]],0):=by decide+kernel
theorem keeps_verify:verifyW (Trie.sumT keepsT) [107] [[1,1,2,32,107,1,1,118]]=([118],true,0):=by
 have:=Trie.verify_whole keeps_good.1 (key:= [107]) (by decide)
 rw [show toldW (trailW (Nib.of [107])) keepsT= [[1,1,2,32,107,1,1,118]] by decide+kernel,show Trie.look keepsT (Nib.of [107])= [118] by decide+kernel] at this;rw [this];rfl
theorem top_keeps (w:World) (hT:Tbl w):
  Calls Tryz.prog 9 #[] w fun e w'=>e= .returned (.bool true)∧Below w.heap.size w w':=by
 have HP:Hid (∀ w',Below w.heap.size w w'→(fun e w'=>e=Ending.returned (.bool true)∧Below w.heap.size w w') (Ending.returned (.bool true)) w'):=ι (fun W' a2=>⟨rfl,a2⟩);generalize (fun e w'=>e=Ending.returned (.bool true)∧Below w.heap.size w w')=P at HP ⊢;have HTb:=ι hT;clear hT;go_enter Tryz.func9,Tryz.ntmps9
 go_wp2_with fail
 refine (vers_New' _).mono ?_;rintro e w1 ⟨vb,g,b,rb,rfl,hv1,hb1,hn⟩;have H1:=ι (And.intro hv1 (And.intro hb1 hn));clear hv1 hb1 hn;go_wp2_with fail
 have HA:Hid (Below w1.heap.size w1 (w1.alloc (.cells #[.string ⟨#[107]⟩,.string ⟨#[118]⟩] 37))):=ι (by go_grown);refine (vers_Commit _ vb g b rb .nil [] [] (-1) 0 (H1.out.1.next HA.out) (HTb.out.next (H1.out.2.1.nxt HA.out)) 1 (by omega) (by omega) (by omega) [([107],[118])] (by simp [Trie.count]) (by simp) (some ⟨w1.heap.size,0,none⟩) 1 (reads_blk (Blk.new _ _ _) (by simp))).mono ?_;rintro e w2 ⟨ho,hcc|⟨_,rfl,hv2⟩⟩
 ·exact absurd (by rw [keeps_commit]) hcc.1
 rw [keeps_commit] at hv2 ⊢;have H2:=ι (And.intro hv2 ((H1.out.2.1.nxt HA.out).trans (ho.below (by have:=H1.out.2.1.size; have:=HA.out.size; omega) H1.out.2.2.1 H1.out.2.2.2.1 H1.out.2.2.2.2)));clear ho hv2 HA H1;go_wp2_with fail
 have hAt:=vers_At w2 vb g b rb _ _ _ _ _ H2.out.1 (HTb.out.next H2.out.2) 1 (Trie.sumT keepsT) rfl;rw [keeps_load] at hAt;refine hAt.mono ?_;clear hAt;rintro e w3 ⟨v,rfl,hb3,hk3⟩;obtain ⟨ht3,_⟩:=hk3 rfl;obtain ⟨_,tb,tx,rfl,_⟩:=id ht3;have HB3:=ι (H2.out.2.nxt hb3);have HPr:=ι (proof_Prove w3 keepsT _ ht3 (by have:=keeps_good.2; omega) [107] (by simp));rw [keeps_prove] at HPr;clear hb3 hk3 ht3 H2;go_wp2_with fail
 refine HPr.out.mono ?_;rintro e w4 ⟨A4,n4,c4,rfl,hn4,own4,hb4⟩;obtain rfl:=hn4;have HB4:=ι (HB3.out.nxt hb4);have HVr:=ι (proof_Verify w4 (Trie.sumT keepsT) [107] (by simp) [[1,1,2,32,107,1,1,118]] A4 c4 (Reads.of_own own4) (by simp) (by simp) (HTb.out.next HB4.out));rw [keeps_verify] at HVr;clear own4 hb4 HB3 HPr;generalize Trie.sumT keepsT=sm at *;go_wp2_with fail
 refine HVr.out.mono ?_;rintro e w5 ⟨rfl,hb5⟩;have HB5:=ι (HB4.out.nxt hb5);clear hb5 HB4 HVr;go_wp2_with fail
 exact HP.out _ HB5.out
end
end Go.Proofs.YtnelhjfjkkdoaaaGreatDoor