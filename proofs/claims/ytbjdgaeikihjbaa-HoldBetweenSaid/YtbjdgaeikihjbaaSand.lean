/-
  The chapter's examples by their numbers.
  Conditions: none.
-/
import Derived.Test.YtbjdgaeikihjbaaSane
namespace Go.Proofs.Ytbjdgaeikihjbaa
set_option linter.unusedSimpArgs false
set_option linter.unusedVariables false
open Go.RowKit
set_option maxRecDepth 100000

theorem ex_ok (a b c : Nat) : fillErr (exH a b c) exF = 0 := by kernel_rfl
theorem ex_mass (a b c : Nat) : massE (exH a b c) exF = ⟨320, 480⟩ := by kernel_rfl
theorem ex_heel (a b c : Nat) : heelE (exH a b c) exF = ⟨256, 400⟩ := by kernel_rfl
theorem ex_ull (a b c : Nat) : ullE (exH a b c) ⟨400, 400⟩ ⟨800, 800⟩ = (⟨49, 51⟩, 0) := by kernel_rfl
theorem ex_pour (a b c : Nat) : pourE (exH a b c) exF ⟨80, 80⟩ ⟨800, 800⟩ = (⟨1, 3, ⟨29, 51⟩, ⟨800, 800⟩⟩, 0) := by kernel_rfl
theorem ex_worst (a b c : Nat) : wrsE (exH a b c) exF = (50, 500) := by kernel_rfl

end Go.Proofs.Ytbjdgaeikihjbaa
