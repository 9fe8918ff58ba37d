/-
  No cell of these rows narrows 'for every input' (looked for: loops, veiled, ifaces, maps, wideKeys, modest, calm, conditions, laid).
  DERIVED. THE GIVEN ROWS OF THIS SEAT. 4 by the template 'for every input the law returns true; each argument reads behind the call as it read before'; 0 by the template 'total and deterministic' (their statements: YtbjdgaeikihjbaaGreatTotals.lean).
  GIVEN WITH THE SEED: the statements are not yours to turn. If you find one false, say at which input.
  Laid BY PROGRAM, IN A SANDBOX (cutbox-rows.mjs): the forced cells as the released guide's own fill.sh prints them over the translation 79ce6e0aebfc502c… (all of the seat's roots in one cut). By AI agents, Wed Nov 11 2026. No macro, syntax, notation, axiom, sorry.
-/
import Derived.Test.YtbjdgaeikihjbaaGreatChecked
import GoSem.Claim
import GoSem.ClaimJoined
import GoSem.ClaimMapViews
import Derived.JoinedTies
import Derived.KernelRfl
namespace Go.Proofs.YtbjdgaeikihjbaaGreat
/- THE CELL 'sum', in the pinned program and in every row, IS THE sha256 OF THE DUMP (.gsa) THAT YtbjdgaeikihjbaaGreatProg.lean LOADS. Nothing in Lean hashes anything: it is a label: what it is worth is what the hold of that sum in a sandbox is worth. -/
noncomputable def Tryz.pinned : Pinned := { name := "ytbjdgaeikihjbaagreat", sum := "79ce6e0aebfc502ca932739cac6399a88e0f59b059ccbbfbbf81765c85df57c5", checked := Tryz.checked }
namespace Rows
def none {H : Type} : Left H := { results := [], args := [] }

/-- 'ullagelaw02.HoldChecks': WHATEVER THE INPUT: true; the input reads as it did. -/
def holdChecksSpec : ChangeSpec := { name := "holdChecks", fn := fun _ => fun
  | [d1, d2] => { results := [.lit (.bool true)], args := [d1, d2] }
  | _ => none }
def holdChecksRow : OpenClaim := { program := "ytbjdgaeikihjbaagreat", sum := "79ce6e0aebfc502ca932739cac6399a88e0f59b059ccbbfbbf81765c85df57c5", func := "ullage/ullagelaw02.HoldChecks", spec := "holdChecks", unfollowed := true, recurses := true, apart := false }
def HoldChecksSaid : Prop := holdChecksRow.holds Tryz.pinned (OpenSpec.ofChange holdChecksSpec)

/-- ITS FALSE NEIGHBOUR: 'it returns false'. Refute it at one input. -/
def holdChecksWrong : ChangeSpec := { name := "holdChecks", fn := fun _ => fun
  | [d1, d2] => { results := [.lit (.bool false)], args := [d1, d2] }
  | _ => none }
def HoldChecksWrongFalsely : Prop := holdChecksRow.holds Tryz.pinned (OpenSpec.ofChange holdChecksWrong)

/-- 'ullagelaw02.HoldPours': WHATEVER THE INPUT: true; the input reads as it did. -/
def holdPoursSpec : ChangeSpec := { name := "holdPours", fn := fun _ => fun
  | [d1, d2, d3] => { results := [.lit (.bool true)], args := [d1, d2, d3] }
  | _ => none }
def holdPoursRow : OpenClaim := { program := "ytbjdgaeikihjbaagreat", sum := "79ce6e0aebfc502ca932739cac6399a88e0f59b059ccbbfbbf81765c85df57c5", func := "ullage/ullagelaw02.HoldPours", spec := "holdPours", unfollowed := true, recurses := true, apart := false }
def HoldPoursSaid : Prop := holdPoursRow.holds Tryz.pinned (OpenSpec.ofChange holdPoursSpec)

/-- ITS FALSE NEIGHBOUR: 'it returns false'. Refute it at one input. -/
def holdPoursWrong : ChangeSpec := { name := "holdPours", fn := fun _ => fun
  | [d1, d2, d3] => { results := [.lit (.bool false)], args := [d1, d2, d3] }
  | _ => none }
def HoldPoursWrongFalsely : Prop := holdPoursRow.holds Tryz.pinned (OpenSpec.ofChange holdPoursWrong)

/-- 'ullagelaw02.HoldTanks': WHATEVER THE INPUT: true; the input reads as it did. -/
def holdTanksSpec : ChangeSpec := { name := "holdTanks", fn := fun _ => fun
  | [d1, d2, d3] => { results := [.lit (.bool true)], args := [d1, d2, d3] }
  | _ => none }
def holdTanksRow : OpenClaim := { program := "ytbjdgaeikihjbaagreat", sum := "79ce6e0aebfc502ca932739cac6399a88e0f59b059ccbbfbbf81765c85df57c5", func := "ullage/ullagelaw02.HoldTanks", spec := "holdTanks", unfollowed := true, recurses := true, apart := false }
def HoldTanksSaid : Prop := holdTanksRow.holds Tryz.pinned (OpenSpec.ofChange holdTanksSpec)

/-- ITS FALSE NEIGHBOUR: 'it returns false'. Refute it at one input. -/
def holdTanksWrong : ChangeSpec := { name := "holdTanks", fn := fun _ => fun
  | [d1, d2, d3] => { results := [.lit (.bool false)], args := [d1, d2, d3] }
  | _ => none }
def HoldTanksWrongFalsely : Prop := holdTanksRow.holds Tryz.pinned (OpenSpec.ofChange holdTanksWrong)

/-- 'ullagelaw02.HoldLoads': WHATEVER THE INPUT: true; the input reads as it did. -/
def holdLoadsSpec : ChangeSpec := { name := "holdLoads", fn := fun _ => fun
  | [d] => { results := [.lit (.bool true)], args := [d] }
  | _ => none }
def holdLoadsRow : OpenClaim := { program := "ytbjdgaeikihjbaagreat", sum := "79ce6e0aebfc502ca932739cac6399a88e0f59b059ccbbfbbf81765c85df57c5", func := "ullage/ullagelaw02.HoldLoads", spec := "holdLoads", unfollowed := true, recurses := true, apart := false }
def HoldLoadsSaid : Prop := holdLoadsRow.holds Tryz.pinned (OpenSpec.ofChange holdLoadsSpec)

/-- ITS FALSE NEIGHBOUR: 'it returns false'. Refute it at one input. -/
def holdLoadsWrong : ChangeSpec := { name := "holdLoads", fn := fun _ => fun
  | [d] => { results := [.lit (.bool false)], args := [d] }
  | _ => none }
def HoldLoadsWrongFalsely : Prop := holdLoadsRow.holds Tryz.pinned (OpenSpec.ofChange holdLoadsWrong)

/- THE SECOND FORM. 'bulk': how many values and letters a reading holds, each counted each time it is reached (what is shared counts as often as it is met; a slice's spare places count too). A statement '..UptoSaid' is the law's where the arguments, and the package variables that the reading takes, are together of bulk at most 1048576: NARROWER than '..Said'. Prove '..Said' where nothing that the law and all that it calls make is longer than what came in: it says more and counts as full. Else prove '..UptoSaid'. A law counts once. -/
mutual
def uptoBulk {H : Type} : DataW H → Nat
  | .lit (.string bytes) => bytes.length + 1
  | .lit _ => 1
  | .nil => 1
  | .ptr d => uptoBulk d + 1
  | .slice elems spare => uptoBulkAll elems + uptoBulkAll spare + 1
  | .agg parts => uptoBulkAll parts + 1
  | .iface _ d => uptoBulk d + 1
  | .map entries => uptoBulkEntries entries + 1
  | .held _ => 1
def uptoBulkAll {H : Type} : List (DataW H) → Nat
  | [] => 0
  | d :: r => uptoBulk d + uptoBulkAll r
def uptoBulkEntries {H : Type} : List (Lit × DataW H) → Nat
  | [] => 0
  | x :: r => uptoBulkEntry x + uptoBulkEntries r
def uptoBulkEntry {H : Type} : Lit × DataW H → Nat
  | (.string bytes, d) => bytes.length + uptoBulk d + 1
  | (_, d) => uptoBulk d + 1
 end
def uptoSmall : (H : Type) → List (DataW H) → Bool := fun _ ds => decide (uptoBulkAll ds ≤ 1048576)
def OpenSpec.upto (s : _root_.Go.ChangeSpec) : _root_.Go.OpenSpec := { _root_.Go.OpenSpec.ofChange s with cond := some uptoSmall }

/-- 'ullagelaw02.HoldChecks', WHERE WHAT IT READS IS OF BULK AT MOST 1048576: true; the input reads as it did. -/
def holdChecksUptoRow : OpenClaim := { program := "ytbjdgaeikihjbaagreat", sum := "79ce6e0aebfc502ca932739cac6399a88e0f59b059ccbbfbbf81765c85df57c5", func := "ullage/ullagelaw02.HoldChecks", spec := "holdChecks", unfollowed := true, recurses := true, apart := false, narrowed := true }
def HoldChecksUptoSaid : Prop := holdChecksUptoRow.holds Tryz.pinned (OpenSpec.upto holdChecksSpec)

/-- 'ullagelaw02.HoldPours', WHERE WHAT IT READS IS OF BULK AT MOST 1048576: true; the input reads as it did. -/
def holdPoursUptoRow : OpenClaim := { program := "ytbjdgaeikihjbaagreat", sum := "79ce6e0aebfc502ca932739cac6399a88e0f59b059ccbbfbbf81765c85df57c5", func := "ullage/ullagelaw02.HoldPours", spec := "holdPours", unfollowed := true, recurses := true, apart := false, narrowed := true }
def HoldPoursUptoSaid : Prop := holdPoursUptoRow.holds Tryz.pinned (OpenSpec.upto holdPoursSpec)

/-- 'ullagelaw02.HoldTanks', WHERE WHAT IT READS IS OF BULK AT MOST 1048576: true; the input reads as it did. -/
def holdTanksUptoRow : OpenClaim := { program := "ytbjdgaeikihjbaagreat", sum := "79ce6e0aebfc502ca932739cac6399a88e0f59b059ccbbfbbf81765c85df57c5", func := "ullage/ullagelaw02.HoldTanks", spec := "holdTanks", unfollowed := true, recurses := true, apart := false, narrowed := true }
def HoldTanksUptoSaid : Prop := holdTanksUptoRow.holds Tryz.pinned (OpenSpec.upto holdTanksSpec)

/-- 'ullagelaw02.HoldLoads', WHERE WHAT IT READS IS OF BULK AT MOST 1048576: true; the input reads as it did. -/
def holdLoadsUptoRow : OpenClaim := { program := "ytbjdgaeikihjbaagreat", sum := "79ce6e0aebfc502ca932739cac6399a88e0f59b059ccbbfbbf81765c85df57c5", func := "ullage/ullagelaw02.HoldLoads", spec := "holdLoads", unfollowed := true, recurses := true, apart := false, narrowed := true }
def HoldLoadsUptoSaid : Prop := holdLoadsUptoRow.holds Tryz.pinned (OpenSpec.upto holdLoadsSpec)

end Rows
end Go.Proofs.YtbjdgaeikihjbaaGreat
