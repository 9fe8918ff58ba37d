/-
  The tail of the law HoldInstants: where it begins.
  Conditions: each theorem's own premises.
-/
import Derived.Test.YtbjdgaeikihjbaaLins
import Derived.Test.YtbjdgaeikihjbaaSanf
import Derived.Test.YtbjdgaeikihjbaaNorm
namespace Go.Proofs.Ytbjdgaeikihjbaa
set_option linter.unusedSimpArgs false
set_option linter.unusedVariables false
open Go.RowKit
set_option maxRecDepth 1000000
set_option maxHeartbeats 8000000
attribute [local go_sem] Instr.field asAgg Soft.upon Soft.BW.cell_if Soft.BW.frozen_if Soft.cell_alloc_if Soft.frozen_alloc_if
attribute [local irreducible] Soft.wpSoft

def icutSeq : Nat → Code → Code
  | 0, c => c
  | n + 1, .seq _ b => icutSeq n b
  | _ + 1, c => c
noncomputable def insTail : Code := icutSeq 12 (Try.f10.body.getD .skip)

end Go.Proofs.Ytbjdgaeikihjbaa
