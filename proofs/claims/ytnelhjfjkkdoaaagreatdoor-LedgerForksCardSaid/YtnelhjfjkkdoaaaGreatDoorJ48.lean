import Derived.Test.YtnelhjfjkkdoaaaGreatDoorJ47
import Derived.Test.YtnelhjfjkkdoaaaGreatDoorJ31
import Derived.Test.YtnelhjfjkkdoaaaGreatDoorJ23
import Derived.BigFrame
import Derived.Deep.DrawnRows
import Derived.Deep.DeepCutAuto
set_option linter.unusedSimpArgs false
set_option linter.unusedVariables false
namespace Go.Proofs.YtnelhjfjkkdoaaaGreatDoor
open Go.RowKit Go.Instr
attribute [local go_sem] ba_get ByteArray.mk_append_mk
attribute [local go_sem ↓] Go.wp_at_zero Go.wp_at_succ
set_option maxRecDepth 100000 in
set_option maxHeartbeats 2000000 in
theorem book_SameHeader_eq20 (w : World) (h : Hd) (A B : Option Addr) (c d : Nat) (HA : Reads w w.heap.size 1 A h.sk.length (strv h.sk)) (HB : Reads w w.heap.size 1 B h.sk.length (strv h.sk)) (hl : h.sk.length ≤ 1048576) : Calls Tryz.prog 42 #[.agg #[.int .i64 h.hgt,.int .i64 h.epo,.int .i64 h.vw,.bool h.last,.string ⟨h.par.toArray⟩,.string ⟨h.st.toArray⟩,.string ⟨h.rc.toArray⟩,.string ⟨h.tx.toArray⟩,.string ⟨h.mem.toArray⟩,.string ⟨h.nxt.toArray⟩,.slice A h.sk.length c],.agg #[.int .i64 h.hgt,.int .i64 h.epo,.int .i64 h.vw,.bool h.last,.string ⟨h.par.toArray⟩,.string ⟨h.st.toArray⟩,.string ⟨h.rc.toArray⟩,.string ⟨h.tx.toArray⟩,.string ⟨h.mem.toArray⟩,.string ⟨h.nxt.toArray⟩,.slice B h.sk.length d]] w (Ret w (.bool true)):=by
 have HP : Hid (∀ w',Below w.heap.size w w' → Ret w (.bool true) (.returned (.bool true)) w'):=Lib.hid (fun w' h=>⟨rfl,h⟩)
 have HT:=Lib.hid (fun W (hW : Below w.heap.size w W)=>book_SameTexts20 A B h.sk.length h.sk.length c d h.sk h.sk W ((HA.below hW).more hW.size) ((HB.below hW).more hW.size) hl hl)
 generalize Ret w (.bool true) = P at HP ⊢
 simp only [decide_true] at HT
 clear HA HB hl
 go_enter Tryz.func42,Tryz.ntmps42
 go_upto_region 1 with fail
 have F0:=Live.ha (Live.ha (Lib.hid (Live.start w)) #[.int .i64 h.hgt,.int .i64 h.epo,.int .i64 h.vw,.bool h.last,.string ⟨h.par.toArray⟩,.string ⟨h.st.toArray⟩,.string ⟨h.rc.toArray⟩,.string ⟨h.tx.toArray⟩,.string ⟨h.mem.toArray⟩,.string ⟨h.nxt.toArray⟩,.slice A h.sk.length c] 65) #[.int .i64 h.hgt,.int .i64 h.epo,.int .i64 h.vw,.bool h.last,.string ⟨h.par.toArray⟩,.string ⟨h.st.toArray⟩,.string ⟨h.rc.toArray⟩,.string ⟨h.tx.toArray⟩,.string ⟨h.mem.toArray⟩,.string ⟨h.nxt.toArray⟩,.slice B h.sk.length d] 65
 simp only [World.size_alloc] at F0
 generalize (w.alloc (.cells #[.int .i64 h.hgt,.int .i64 h.epo,.int .i64 h.vw,.bool h.last,.string ⟨h.par.toArray⟩,.string ⟨h.st.toArray⟩,.string ⟨h.rc.toArray⟩,.string ⟨h.tx.toArray⟩,.string ⟨h.mem.toArray⟩,.string ⟨h.nxt.toArray⟩,.slice A h.sk.length c] 65)).alloc (.cells #[.int .i64 h.hgt,.int .i64 h.epo,.int .i64 h.vw,.bool h.last,.string ⟨h.par.toArray⟩,.string ⟨h.st.toArray⟩,.string ⟨h.rc.toArray⟩,.string ⟨h.tx.toArray⟩,.string ⟨h.mem.toArray⟩,.string ⟨h.nxt.toArray⟩,.slice B h.sk.length d] 65) = W0 at F0 ⊢
 generalize hbb : w.heap.size + 1 = bb at F0 ⊢
 clear hbb
 generalize w.heap.size = ab at F0 ⊢
 have k1_0 : W0.cell? ⟨ab,0,none⟩ = some (.int .i64 h.hgt):=F0.out.cell 1 0 rfl rfl; have k1_1 : W0.cell? ⟨ab,1,none⟩ = some (.int .i64 h.epo):=F0.out.cell 1 1 rfl rfl; have k1_2 : W0.cell? ⟨ab,2,none⟩ = some (.int .i64 h.vw):=F0.out.cell 1 2 rfl rfl; have k1_3 : W0.cell? ⟨ab,3,none⟩ = some (.bool h.last):=F0.out.cell 1 3 rfl rfl; have k1_4 : W0.cell? ⟨ab,4,none⟩ = some (.string ⟨h.par.toArray⟩):=F0.out.cell 1 4 rfl rfl; have k1_5 : W0.cell? ⟨ab,5,none⟩ = some (.string ⟨h.st.toArray⟩):=F0.out.cell 1 5 rfl rfl; have k1_6 : W0.cell? ⟨ab,6,none⟩ = some (.string ⟨h.rc.toArray⟩):=F0.out.cell 1 6 rfl rfl; have k1_7 : W0.cell? ⟨ab,7,none⟩ = some (.string ⟨h.tx.toArray⟩):=F0.out.cell 1 7 rfl rfl; have k1_8 : W0.cell? ⟨ab,8,none⟩ = some (.string ⟨h.mem.toArray⟩):=F0.out.cell 1 8 rfl rfl; have k1_9 : W0.cell? ⟨ab,9,none⟩ = some (.string ⟨h.nxt.toArray⟩):=F0.out.cell 1 9 rfl rfl; have k1_10 : W0.cell? ⟨ab,10,none⟩ = some (.slice A h.sk.length c):=F0.out.cell 1 10 rfl rfl
 have k0_0 : W0.cell? ⟨bb,0,none⟩ = some (.int .i64 h.hgt):=F0.out.cell 0 0 rfl rfl; have k0_1 : W0.cell? ⟨bb,1,none⟩ = some (.int .i64 h.epo):=F0.out.cell 0 1 rfl rfl; have k0_2 : W0.cell? ⟨bb,2,none⟩ = some (.int .i64 h.vw):=F0.out.cell 0 2 rfl rfl; have k0_3 : W0.cell? ⟨bb,3,none⟩ = some (.bool h.last):=F0.out.cell 0 3 rfl rfl; have k0_4 : W0.cell? ⟨bb,4,none⟩ = some (.string ⟨h.par.toArray⟩):=F0.out.cell 0 4 rfl rfl; have k0_5 : W0.cell? ⟨bb,5,none⟩ = some (.string ⟨h.st.toArray⟩):=F0.out.cell 0 5 rfl rfl; have k0_6 : W0.cell? ⟨bb,6,none⟩ = some (.string ⟨h.rc.toArray⟩):=F0.out.cell 0 6 rfl rfl; have k0_7 : W0.cell? ⟨bb,7,none⟩ = some (.string ⟨h.tx.toArray⟩):=F0.out.cell 0 7 rfl rfl; have k0_8 : W0.cell? ⟨bb,8,none⟩ = some (.string ⟨h.mem.toArray⟩):=F0.out.cell 0 8 rfl rfl; have k0_9 : W0.cell? ⟨bb,9,none⟩ = some (.string ⟨h.nxt.toArray⟩):=F0.out.cell 0 9 rfl rfl; have k0_10 : W0.cell? ⟨bb,10,none⟩ = some (.slice B h.sk.length d):=F0.out.cell 0 10 rfl rfl
 have HT1:=Lib.hid (HT.out _ F0.out.b)
 obtain ⟨hg,ep,vw,la,pr,st,rc,tx,mm,nx,sk⟩:=h
 simp only at *
 go_wp2_with fail
 refine HT1.out.mono ?_
 rintro e W1 ⟨rfl,hb⟩
 have F1:=Live.hb F0 hb
 clear hb HT1
 go_wp2_with fail
 exact HP.out _ F1.out.b
end Go.Proofs.YtnelhjfjkkdoaaaGreatDoor
