/- The loops of a function's code, counted from its head, so that a loop is walked as a theorem of its own. No conditions. -/
import Derived.Test.YtojpijpajdiiiaaBase
namespace Go.Proofs.Ytojpijpajdiiiaa
set_option linter.unusedVariables false
open Go.RowKit

def loopsOf : Code → List Code
  | .loop c => c :: loopsOf c
  | .seq a b => loopsOf a ++ loopsOf b
  | .block _ c => loopsOf c
  | .scope c => loopsOf c
  | .cond _ a b => loopsOf a ++ loopsOf b
  | _ => []
noncomputable def loopAt (f : Func) (n : Nat) : Code := (((f.body.map loopsOf).getD [])[n]?).getD .skip
end Go.Proofs.Ytojpijpajdiiiaa
