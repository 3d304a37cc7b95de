import Derived.Test.YtdkiloganbhfkaaGreatDoorJ33
set_option linter.unusedSimpArgs false
set_option linter.unusedVariables false
set_option maxHeartbeats 4000000
set_option maxRecDepth 100000
namespace Go.Proofs.YtdkiloganbhfkaaGreatDoor
section
open Go.RowKit Go.Instr
theorem bits_Len64 (n:Nat) (w:World) (h1:1≤n) (h2:n≤16):Calls Tryz.prog 59 #[.int .u64 (n:Int)] w fun e w'=>e= .returned (.int .i64 (Ac.lenB n:Nat))∧w'=w:=by
 have h:n=1∨n=2∨n=3∨n=4∨n=5∨n=6∨n=7∨n=8∨n=9∨n=10∨n=11∨n=12∨n=13∨n=14∨n=15∨n=16:=by omega
 clear h1 h2;rcases h with rfl|rfl|rfl|rfl|rfl|rfl|rfl|rfl|rfl|rfl|rfl|rfl|rfl|rfl|rfl|rfl
 all_goals
  go_enter Tryz.func59,Tryz.ntmps59
  go_wp2_with fail
  go_ret
  exact ⟨by kernel_rfl,rfl⟩
theorem bits_Len (n:Nat) (w:World) (h1:1≤n) (h2:n≤16):Calls Tryz.prog 30 #[.int .u64 (n:Int)] w fun e w'=>e= .returned (.int .i64 (Ac.lenB n:Nat))∧w'=w:=by
 have HL:=ι (bits_Len64 n w h1 h2);clear h1 h2;go_enter Tryz.func30,Tryz.ntmps30
 go_wp2_with fail
 refine HL.out.mono ?_;rintro e w1 ⟨rfl,rfl⟩;go_wp2_with fail
 go_ret
 exact ⟨rfl,rfl⟩
theorem lenB_small (n:Nat) (h2:n≤16):Ac.lenB n≤5:=by
 have a:=Ac.lenB_le h2;have b:Ac.lenB 16=5:=by decide
 omega
end
end Go.Proofs.YtdkiloganbhfkaaGreatDoor