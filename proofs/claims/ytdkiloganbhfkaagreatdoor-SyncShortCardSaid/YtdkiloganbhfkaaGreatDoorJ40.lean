import Derived.Test.YtdkiloganbhfkaaGreatDoorJ39
set_option linter.unusedSimpArgs false
set_option linter.unusedVariables false
set_option maxHeartbeats 4000000
set_option maxRecDepth 100000
namespace Go.Proofs.YtdkiloganbhfkaaGreatDoor
section
open Go.RowKit Go.Instr
attribute [local go_sem] ba_get ByteArray.mk_append_mk
attribute [local go_sem ↓] Go.wp_at_zero Go.wp_at_succ
theorem book_SameHeader_eq (w:World) (h:Hd) (A B:Option Addr) (c d:Nat) (HA:Reads w w.heap.size 1 A h.sk.length (strv h.sk)) (HB:Reads w w.heap.size 1 B h.sk.length (strv h.sk)) (hl:h.sk.length≤1048576):Calls Tryz.prog 20 #[.agg (η h [.slice A h.sk.length c]),.agg (η h [.slice B h.sk.length d])] w (Ret w (.bool true)):=by
 have HP:Hid (∀ w',Below w.heap.size w w'→Ret w (.bool true) (.returned (.bool true)) w'):=ι (fun w' h=>⟨rfl,h⟩);have HT:=ι (fun W (hW:Below w.heap.size w W)=>book_SameTexts A B h.sk.length h.sk.length c d h.sk h.sk W ((HA.below hW).more hW.size) ((HB.below hW).more hW.size) hl hl);generalize Ret w (.bool true)=P at HP ⊢;simp only [decide_true] at HT;clear HA HB hl;go_enter Tryz.func20,Tryz.ntmps20
 go_upto_region 1 with fail
 have F0:=Live.ha (Live.ha (ι (Live.start w)) (η h [.slice A h.sk.length c]) 41) (η h [.slice B h.sk.length d]) 41;simp only [World.size_alloc] at F0;generalize (w.alloc (.cells (η h [.slice A h.sk.length c]) 41)).alloc (.cells (η h [.slice B h.sk.length d]) 41)=W0 at F0 ⊢;generalize hbb:w.heap.size+1=bb at F0 ⊢;clear hbb;generalize w.heap.size=ab at F0 ⊢;have k1:=(F0.out.blk 1 rfl).c11;have k0:=(F0.out.blk 0 rfl).c11;have HT1:=ι (HT.out _ F0.out.b);obtain ⟨hg,ep,vw,la,pr,st,rc,tx,mm,nx,sk⟩:=h;simp only at *;go_wp2_with fail
 refine HT1.out.mono ?_;rintro e W1 ⟨rfl,hb⟩;have F1:=Live.hb F0 hb;clear hb HT1;go_wp2_with fail
 exact HP.out _ F1.out.b
end
end Go.Proofs.YtdkiloganbhfkaaGreatDoor