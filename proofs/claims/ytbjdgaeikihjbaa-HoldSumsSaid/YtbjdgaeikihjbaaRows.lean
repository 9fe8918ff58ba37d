/-
  No cell of these rows narrows 'for every input' (looked for: loops, veiled, ifaces, maps, wideKeys, modest, calm, conditions, laid).
  DERIVED. THE GIVEN ROWS OF THIS SEAT. 12 by the template 'for every input the law returns true; each argument reads behind the call as it read before'; 0 by the template 'total and deterministic' (their statements: YtbjdgaeikihjbaaTotals.lean).
  GIVEN WITH THE SEED: the statements are not yours to turn. If you find one false, say at which input.
  Laid BY PROGRAM, IN A SANDBOX (cutbox-rows.mjs): the forced cells as the released guide's own fill.sh prints them over the translation 25fbad2f2710ad68… (all of the seat's roots in one cut). By AI agents, Wed Nov 11 2026. No macro, syntax, notation, axiom, sorry.
-/
import Derived.Test.YtbjdgaeikihjbaaChecked
import GoSem.Claim
import GoSem.ClaimJoined
import GoSem.ClaimMapViews
import Derived.JoinedTies
import Derived.KernelRfl
namespace Go.Proofs.Ytbjdgaeikihjbaa
/- THE CELL 'sum', in the pinned program and in every row, IS THE sha256 OF THE DUMP (.gsa) THAT YtbjdgaeikihjbaaProg.lean LOADS. Nothing in Lean hashes anything: it is a label: what it is worth is what the hold of that sum in a sandbox is worth. -/
noncomputable def Try.pinned : Pinned := { name := "ytbjdgaeikihjbaa", sum := "25fbad2f2710ad6869092c51232bd214d5e15df2fd037f6dfa618fdd55fa78b3", checked := Try.checked }
namespace Rows
def none {H : Type} : Left H := { results := [], args := [] }

/-- 'ullagelaw02.HoldPoured': WHATEVER THE INPUT: true; the input reads as it did. -/
def holdPouredSpec : ChangeSpec := { name := "holdPoured", fn := fun _ => fun
  | [d1, d2, d3] => { results := [.lit (.bool true)], args := [d1, d2, d3] }
  | _ => none }
def holdPouredRow : OpenClaim := { program := "ytbjdgaeikihjbaa", sum := "25fbad2f2710ad6869092c51232bd214d5e15df2fd037f6dfa618fdd55fa78b3", func := "ullage/ullagelaw02.HoldPoured", spec := "holdPoured", unfollowed := true, recurses := true, apart := false }
def HoldPouredSaid : Prop := holdPouredRow.holds Try.pinned (OpenSpec.ofChange holdPouredSpec)

/-- ITS FALSE NEIGHBOUR: 'it returns false'. Refute it at one input. -/
def holdPouredWrong : ChangeSpec := { name := "holdPoured", fn := fun _ => fun
  | [d1, d2, d3] => { results := [.lit (.bool false)], args := [d1, d2, d3] }
  | _ => none }
def HoldPouredWrongFalsely : Prop := holdPouredRow.holds Try.pinned (OpenSpec.ofChange holdPouredWrong)

/-- 'ullagelaw02.HoldBounds': WHATEVER THE INPUT: true; the input reads as it did. -/
def holdBoundsSpec : ChangeSpec := { name := "holdBounds", fn := fun _ => fun
  | [d1, d2, d3] => { results := [.lit (.bool true)], args := [d1, d2, d3] }
  | _ => none }
def holdBoundsRow : OpenClaim := { program := "ytbjdgaeikihjbaa", sum := "25fbad2f2710ad6869092c51232bd214d5e15df2fd037f6dfa618fdd55fa78b3", func := "ullage/ullagelaw02.HoldBounds", spec := "holdBounds", unfollowed := true, recurses := true, apart := false }
def HoldBoundsSaid : Prop := holdBoundsRow.holds Try.pinned (OpenSpec.ofChange holdBoundsSpec)

/-- ITS FALSE NEIGHBOUR: 'it returns false'. Refute it at one input. -/
def holdBoundsWrong : ChangeSpec := { name := "holdBounds", fn := fun _ => fun
  | [d1, d2, d3] => { results := [.lit (.bool false)], args := [d1, d2, d3] }
  | _ => none }
def HoldBoundsWrongFalsely : Prop := holdBoundsRow.holds Try.pinned (OpenSpec.ofChange holdBoundsWrong)

/-- 'ullagelaw02.HoldInverts': WHATEVER THE INPUT: true; the input reads as it did. -/
def holdInvertsSpec : ChangeSpec := { name := "holdInverts", fn := fun _ => fun
  | [d1, d2, d3] => { results := [.lit (.bool true)], args := [d1, d2, d3] }
  | _ => none }
def holdInvertsRow : OpenClaim := { program := "ytbjdgaeikihjbaa", sum := "25fbad2f2710ad6869092c51232bd214d5e15df2fd037f6dfa618fdd55fa78b3", func := "ullage/ullagelaw02.HoldInverts", spec := "holdInverts", unfollowed := true, recurses := true, apart := false }
def HoldInvertsSaid : Prop := holdInvertsRow.holds Try.pinned (OpenSpec.ofChange holdInvertsSpec)

/-- ITS FALSE NEIGHBOUR: 'it returns false'. Refute it at one input. -/
def holdInvertsWrong : ChangeSpec := { name := "holdInverts", fn := fun _ => fun
  | [d1, d2, d3] => { results := [.lit (.bool false)], args := [d1, d2, d3] }
  | _ => none }
def HoldInvertsWrongFalsely : Prop := holdInvertsRow.holds Try.pinned (OpenSpec.ofChange holdInvertsWrong)

/-- 'ullagelaw02.HoldWorst': WHATEVER THE INPUT: true; the input reads as it did. -/
def holdWorstSpec : ChangeSpec := { name := "holdWorst", fn := fun _ => fun
  | [d1, d2, d3] => { results := [.lit (.bool true)], args := [d1, d2, d3] }
  | _ => none }
def holdWorstRow : OpenClaim := { program := "ytbjdgaeikihjbaa", sum := "25fbad2f2710ad6869092c51232bd214d5e15df2fd037f6dfa618fdd55fa78b3", func := "ullage/ullagelaw02.HoldWorst", spec := "holdWorst", unfollowed := true, recurses := true, apart := false }
def HoldWorstSaid : Prop := holdWorstRow.holds Try.pinned (OpenSpec.ofChange holdWorstSpec)

/-- ITS FALSE NEIGHBOUR: 'it returns false'. Refute it at one input. -/
def holdWorstWrong : ChangeSpec := { name := "holdWorst", fn := fun _ => fun
  | [d1, d2, d3] => { results := [.lit (.bool false)], args := [d1, d2, d3] }
  | _ => none }
def HoldWorstWrongFalsely : Prop := holdWorstRow.holds Try.pinned (OpenSpec.ofChange holdWorstWrong)

/-- 'ullagelaw02.HoldInverse': WHATEVER THE INPUT: true; the input reads as it did. -/
def holdInverseSpec : ChangeSpec := { name := "holdInverse", fn := fun _ => fun
  | [d1, d2, d3] => { results := [.lit (.bool true)], args := [d1, d2, d3] }
  | _ => none }
def holdInverseRow : OpenClaim := { program := "ytbjdgaeikihjbaa", sum := "25fbad2f2710ad6869092c51232bd214d5e15df2fd037f6dfa618fdd55fa78b3", func := "ullage/ullagelaw02.HoldInverse", spec := "holdInverse", unfollowed := true, recurses := true, apart := false }
def HoldInverseSaid : Prop := holdInverseRow.holds Try.pinned (OpenSpec.ofChange holdInverseSpec)

/-- ITS FALSE NEIGHBOUR: 'it returns false'. Refute it at one input. -/
def holdInverseWrong : ChangeSpec := { name := "holdInverse", fn := fun _ => fun
  | [d1, d2, d3] => { results := [.lit (.bool false)], args := [d1, d2, d3] }
  | _ => none }
def HoldInverseWrongFalsely : Prop := holdInverseRow.holds Try.pinned (OpenSpec.ofChange holdInverseWrong)

/-- 'ullagelaw02.HoldBetween': WHATEVER THE INPUT: true; the input reads as it did. -/
def holdBetweenSpec : ChangeSpec := { name := "holdBetween", fn := fun _ => fun
  | [d1, d2, d3] => { results := [.lit (.bool true)], args := [d1, d2, d3] }
  | _ => none }
def holdBetweenRow : OpenClaim := { program := "ytbjdgaeikihjbaa", sum := "25fbad2f2710ad6869092c51232bd214d5e15df2fd037f6dfa618fdd55fa78b3", func := "ullage/ullagelaw02.HoldBetween", spec := "holdBetween", unfollowed := true, recurses := true, apart := false }
def HoldBetweenSaid : Prop := holdBetweenRow.holds Try.pinned (OpenSpec.ofChange holdBetweenSpec)

/-- ITS FALSE NEIGHBOUR: 'it returns false'. Refute it at one input. -/
def holdBetweenWrong : ChangeSpec := { name := "holdBetween", fn := fun _ => fun
  | [d1, d2, d3] => { results := [.lit (.bool false)], args := [d1, d2, d3] }
  | _ => none }
def HoldBetweenWrongFalsely : Prop := holdBetweenRow.holds Try.pinned (OpenSpec.ofChange holdBetweenWrong)

/-- 'ullagelaw02.HoldDrawn': WHATEVER THE INPUT: true; the input reads as it did. -/
def holdDrawnSpec : ChangeSpec := { name := "holdDrawn", fn := fun _ => fun
  | [d1, d2, d3] => { results := [.lit (.bool true)], args := [d1, d2, d3] }
  | _ => none }
def holdDrawnRow : OpenClaim := { program := "ytbjdgaeikihjbaa", sum := "25fbad2f2710ad6869092c51232bd214d5e15df2fd037f6dfa618fdd55fa78b3", func := "ullage/ullagelaw02.HoldDrawn", spec := "holdDrawn", unfollowed := true, recurses := true, apart := false }
def HoldDrawnSaid : Prop := holdDrawnRow.holds Try.pinned (OpenSpec.ofChange holdDrawnSpec)

/-- ITS FALSE NEIGHBOUR: 'it returns false'. Refute it at one input. -/
def holdDrawnWrong : ChangeSpec := { name := "holdDrawn", fn := fun _ => fun
  | [d1, d2, d3] => { results := [.lit (.bool false)], args := [d1, d2, d3] }
  | _ => none }
def HoldDrawnWrongFalsely : Prop := holdDrawnRow.holds Try.pinned (OpenSpec.ofChange holdDrawnWrong)

/-- 'ullagelaw02.HoldInstants': WHATEVER THE INPUT: true; the input reads as it did. -/
def holdInstantsSpec : ChangeSpec := { name := "holdInstants", fn := fun _ => fun
  | [d1, d2, d3] => { results := [.lit (.bool true)], args := [d1, d2, d3] }
  | _ => none }
def holdInstantsRow : OpenClaim := { program := "ytbjdgaeikihjbaa", sum := "25fbad2f2710ad6869092c51232bd214d5e15df2fd037f6dfa618fdd55fa78b3", func := "ullage/ullagelaw02.HoldInstants", spec := "holdInstants", unfollowed := true, recurses := true, apart := false }
def HoldInstantsSaid : Prop := holdInstantsRow.holds Try.pinned (OpenSpec.ofChange holdInstantsSpec)

/-- ITS FALSE NEIGHBOUR: 'it returns false'. Refute it at one input. -/
def holdInstantsWrong : ChangeSpec := { name := "holdInstants", fn := fun _ => fun
  | [d1, d2, d3] => { results := [.lit (.bool false)], args := [d1, d2, d3] }
  | _ => none }
def HoldInstantsWrongFalsely : Prop := holdInstantsRow.holds Try.pinned (OpenSpec.ofChange holdInstantsWrong)

/-- 'ullagelaw02.HoldWorsts': WHATEVER THE INPUT: true; the input reads as it did. -/
def holdWorstsSpec : ChangeSpec := { name := "holdWorsts", fn := fun _ => fun
  | [d1, d2, d3] => { results := [.lit (.bool true)], args := [d1, d2, d3] }
  | _ => none }
def holdWorstsRow : OpenClaim := { program := "ytbjdgaeikihjbaa", sum := "25fbad2f2710ad6869092c51232bd214d5e15df2fd037f6dfa618fdd55fa78b3", func := "ullage/ullagelaw02.HoldWorsts", spec := "holdWorsts", unfollowed := true, recurses := true, apart := false }
def HoldWorstsSaid : Prop := holdWorstsRow.holds Try.pinned (OpenSpec.ofChange holdWorstsSpec)

/-- ITS FALSE NEIGHBOUR: 'it returns false'. Refute it at one input. -/
def holdWorstsWrong : ChangeSpec := { name := "holdWorsts", fn := fun _ => fun
  | [d1, d2, d3] => { results := [.lit (.bool false)], args := [d1, d2, d3] }
  | _ => none }
def HoldWorstsWrongFalsely : Prop := holdWorstsRow.holds Try.pinned (OpenSpec.ofChange holdWorstsWrong)

/-- 'ullagelaw02.HoldNarrower': WHATEVER THE INPUT: true; the input reads as it did. -/
def holdNarrowerSpec : ChangeSpec := { name := "holdNarrower", fn := fun _ => fun
  | [d1, d2, d3] => { results := [.lit (.bool true)], args := [d1, d2, d3] }
  | _ => none }
def holdNarrowerRow : OpenClaim := { program := "ytbjdgaeikihjbaa", sum := "25fbad2f2710ad6869092c51232bd214d5e15df2fd037f6dfa618fdd55fa78b3", func := "ullage/ullagelaw02.HoldNarrower", spec := "holdNarrower", unfollowed := true, recurses := true, apart := false }
def HoldNarrowerSaid : Prop := holdNarrowerRow.holds Try.pinned (OpenSpec.ofChange holdNarrowerSpec)

/-- ITS FALSE NEIGHBOUR: 'it returns false'. Refute it at one input. -/
def holdNarrowerWrong : ChangeSpec := { name := "holdNarrower", fn := fun _ => fun
  | [d1, d2, d3] => { results := [.lit (.bool false)], args := [d1, d2, d3] }
  | _ => none }
def HoldNarrowerWrongFalsely : Prop := holdNarrowerRow.holds Try.pinned (OpenSpec.ofChange holdNarrowerWrong)

/-- 'ullagelaw02.HoldLevels': WHATEVER THE INPUT: true; the input reads as it did. -/
def holdLevelsSpec : ChangeSpec := { name := "holdLevels", fn := fun _ => fun
  | [d1, d2, d3] => { results := [.lit (.bool true)], args := [d1, d2, d3] }
  | _ => none }
def holdLevelsRow : OpenClaim := { program := "ytbjdgaeikihjbaa", sum := "25fbad2f2710ad6869092c51232bd214d5e15df2fd037f6dfa618fdd55fa78b3", func := "ullage/ullagelaw02.HoldLevels", spec := "holdLevels", unfollowed := true, recurses := true, apart := false }
def HoldLevelsSaid : Prop := holdLevelsRow.holds Try.pinned (OpenSpec.ofChange holdLevelsSpec)

/-- ITS FALSE NEIGHBOUR: 'it returns false'. Refute it at one input. -/
def holdLevelsWrong : ChangeSpec := { name := "holdLevels", fn := fun _ => fun
  | [d1, d2, d3] => { results := [.lit (.bool false)], args := [d1, d2, d3] }
  | _ => none }
def HoldLevelsWrongFalsely : Prop := holdLevelsRow.holds Try.pinned (OpenSpec.ofChange holdLevelsWrong)

/-- 'ullagelaw02.HoldSums': WHATEVER THE INPUT: true; the input reads as it did. -/
def holdSumsSpec : ChangeSpec := { name := "holdSums", fn := fun _ => fun
  | [d1, d2, d3] => { results := [.lit (.bool true)], args := [d1, d2, d3] }
  | _ => none }
def holdSumsRow : OpenClaim := { program := "ytbjdgaeikihjbaa", sum := "25fbad2f2710ad6869092c51232bd214d5e15df2fd037f6dfa618fdd55fa78b3", func := "ullage/ullagelaw02.HoldSums", spec := "holdSums", unfollowed := true, recurses := true, apart := false }
def HoldSumsSaid : Prop := holdSumsRow.holds Try.pinned (OpenSpec.ofChange holdSumsSpec)

/-- ITS FALSE NEIGHBOUR: 'it returns false'. Refute it at one input. -/
def holdSumsWrong : ChangeSpec := { name := "holdSums", fn := fun _ => fun
  | [d1, d2, d3] => { results := [.lit (.bool false)], args := [d1, d2, d3] }
  | _ => none }
def HoldSumsWrongFalsely : Prop := holdSumsRow.holds Try.pinned (OpenSpec.ofChange holdSumsWrong)

/- THE SECOND FORM. 'bulk': how many values and letters a reading holds, each counted each time it is reached (what is shared counts as often as it is met; a slice's spare places count too). A statement '..UptoSaid' is the law's where the arguments, and the package variables that the reading takes, are together of bulk at most 1048576: NARROWER than '..Said'. Prove '..Said' where nothing that the law and all that it calls make is longer than what came in: it says more and counts as full. Else prove '..UptoSaid'. A law counts once. -/
mutual
def uptoBulk {H : Type} : DataW H → Nat
  | .lit (.string bytes) => bytes.length + 1
  | .lit _ => 1
  | .nil => 1
  | .ptr d => uptoBulk d + 1
  | .slice elems spare => uptoBulkAll elems + uptoBulkAll spare + 1
  | .agg parts => uptoBulkAll parts + 1
  | .iface _ d => uptoBulk d + 1
  | .map entries => uptoBulkEntries entries + 1
  | .held _ => 1
def uptoBulkAll {H : Type} : List (DataW H) → Nat
  | [] => 0
  | d :: r => uptoBulk d + uptoBulkAll r
def uptoBulkEntries {H : Type} : List (Lit × DataW H) → Nat
  | [] => 0
  | x :: r => uptoBulkEntry x + uptoBulkEntries r
def uptoBulkEntry {H : Type} : Lit × DataW H → Nat
  | (.string bytes, d) => bytes.length + uptoBulk d + 1
  | (_, d) => uptoBulk d + 1
 end
def uptoSmall : (H : Type) → List (DataW H) → Bool := fun _ ds => decide (uptoBulkAll ds ≤ 1048576)
def OpenSpec.upto (s : _root_.Go.ChangeSpec) : _root_.Go.OpenSpec := { _root_.Go.OpenSpec.ofChange s with cond := some uptoSmall }

/-- 'ullagelaw02.HoldPoured', WHERE WHAT IT READS IS OF BULK AT MOST 1048576: true; the input reads as it did. -/
def holdPouredUptoRow : OpenClaim := { program := "ytbjdgaeikihjbaa", sum := "25fbad2f2710ad6869092c51232bd214d5e15df2fd037f6dfa618fdd55fa78b3", func := "ullage/ullagelaw02.HoldPoured", spec := "holdPoured", unfollowed := true, recurses := true, apart := false, narrowed := true }
def HoldPouredUptoSaid : Prop := holdPouredUptoRow.holds Try.pinned (OpenSpec.upto holdPouredSpec)

/-- 'ullagelaw02.HoldBounds', WHERE WHAT IT READS IS OF BULK AT MOST 1048576: true; the input reads as it did. -/
def holdBoundsUptoRow : OpenClaim := { program := "ytbjdgaeikihjbaa", sum := "25fbad2f2710ad6869092c51232bd214d5e15df2fd037f6dfa618fdd55fa78b3", func := "ullage/ullagelaw02.HoldBounds", spec := "holdBounds", unfollowed := true, recurses := true, apart := false, narrowed := true }
def HoldBoundsUptoSaid : Prop := holdBoundsUptoRow.holds Try.pinned (OpenSpec.upto holdBoundsSpec)

/-- 'ullagelaw02.HoldInverts', WHERE WHAT IT READS IS OF BULK AT MOST 1048576: true; the input reads as it did. -/
def holdInvertsUptoRow : OpenClaim := { program := "ytbjdgaeikihjbaa", sum := "25fbad2f2710ad6869092c51232bd214d5e15df2fd037f6dfa618fdd55fa78b3", func := "ullage/ullagelaw02.HoldInverts", spec := "holdInverts", unfollowed := true, recurses := true, apart := false, narrowed := true }
def HoldInvertsUptoSaid : Prop := holdInvertsUptoRow.holds Try.pinned (OpenSpec.upto holdInvertsSpec)

/-- 'ullagelaw02.HoldWorst', WHERE WHAT IT READS IS OF BULK AT MOST 1048576: true; the input reads as it did. -/
def holdWorstUptoRow : OpenClaim := { program := "ytbjdgaeikihjbaa", sum := "25fbad2f2710ad6869092c51232bd214d5e15df2fd037f6dfa618fdd55fa78b3", func := "ullage/ullagelaw02.HoldWorst", spec := "holdWorst", unfollowed := true, recurses := true, apart := false, narrowed := true }
def HoldWorstUptoSaid : Prop := holdWorstUptoRow.holds Try.pinned (OpenSpec.upto holdWorstSpec)

/-- 'ullagelaw02.HoldInverse', WHERE WHAT IT READS IS OF BULK AT MOST 1048576: true; the input reads as it did. -/
def holdInverseUptoRow : OpenClaim := { program := "ytbjdgaeikihjbaa", sum := "25fbad2f2710ad6869092c51232bd214d5e15df2fd037f6dfa618fdd55fa78b3", func := "ullage/ullagelaw02.HoldInverse", spec := "holdInverse", unfollowed := true, recurses := true, apart := false, narrowed := true }
def HoldInverseUptoSaid : Prop := holdInverseUptoRow.holds Try.pinned (OpenSpec.upto holdInverseSpec)

/-- 'ullagelaw02.HoldBetween', WHERE WHAT IT READS IS OF BULK AT MOST 1048576: true; the input reads as it did. -/
def holdBetweenUptoRow : OpenClaim := { program := "ytbjdgaeikihjbaa", sum := "25fbad2f2710ad6869092c51232bd214d5e15df2fd037f6dfa618fdd55fa78b3", func := "ullage/ullagelaw02.HoldBetween", spec := "holdBetween", unfollowed := true, recurses := true, apart := false, narrowed := true }
def HoldBetweenUptoSaid : Prop := holdBetweenUptoRow.holds Try.pinned (OpenSpec.upto holdBetweenSpec)

/-- 'ullagelaw02.HoldDrawn', WHERE WHAT IT READS IS OF BULK AT MOST 1048576: true; the input reads as it did. -/
def holdDrawnUptoRow : OpenClaim := { program := "ytbjdgaeikihjbaa", sum := "25fbad2f2710ad6869092c51232bd214d5e15df2fd037f6dfa618fdd55fa78b3", func := "ullage/ullagelaw02.HoldDrawn", spec := "holdDrawn", unfollowed := true, recurses := true, apart := false, narrowed := true }
def HoldDrawnUptoSaid : Prop := holdDrawnUptoRow.holds Try.pinned (OpenSpec.upto holdDrawnSpec)

/-- 'ullagelaw02.HoldInstants', WHERE WHAT IT READS IS OF BULK AT MOST 1048576: true; the input reads as it did. -/
def holdInstantsUptoRow : OpenClaim := { program := "ytbjdgaeikihjbaa", sum := "25fbad2f2710ad6869092c51232bd214d5e15df2fd037f6dfa618fdd55fa78b3", func := "ullage/ullagelaw02.HoldInstants", spec := "holdInstants", unfollowed := true, recurses := true, apart := false, narrowed := true }
def HoldInstantsUptoSaid : Prop := holdInstantsUptoRow.holds Try.pinned (OpenSpec.upto holdInstantsSpec)

/-- 'ullagelaw02.HoldWorsts', WHERE WHAT IT READS IS OF BULK AT MOST 1048576: true; the input reads as it did. -/
def holdWorstsUptoRow : OpenClaim := { program := "ytbjdgaeikihjbaa", sum := "25fbad2f2710ad6869092c51232bd214d5e15df2fd037f6dfa618fdd55fa78b3", func := "ullage/ullagelaw02.HoldWorsts", spec := "holdWorsts", unfollowed := true, recurses := true, apart := false, narrowed := true }
def HoldWorstsUptoSaid : Prop := holdWorstsUptoRow.holds Try.pinned (OpenSpec.upto holdWorstsSpec)

/-- 'ullagelaw02.HoldNarrower', WHERE WHAT IT READS IS OF BULK AT MOST 1048576: true; the input reads as it did. -/
def holdNarrowerUptoRow : OpenClaim := { program := "ytbjdgaeikihjbaa", sum := "25fbad2f2710ad6869092c51232bd214d5e15df2fd037f6dfa618fdd55fa78b3", func := "ullage/ullagelaw02.HoldNarrower", spec := "holdNarrower", unfollowed := true, recurses := true, apart := false, narrowed := true }
def HoldNarrowerUptoSaid : Prop := holdNarrowerUptoRow.holds Try.pinned (OpenSpec.upto holdNarrowerSpec)

/-- 'ullagelaw02.HoldLevels', WHERE WHAT IT READS IS OF BULK AT MOST 1048576: true; the input reads as it did. -/
def holdLevelsUptoRow : OpenClaim := { program := "ytbjdgaeikihjbaa", sum := "25fbad2f2710ad6869092c51232bd214d5e15df2fd037f6dfa618fdd55fa78b3", func := "ullage/ullagelaw02.HoldLevels", spec := "holdLevels", unfollowed := true, recurses := true, apart := false, narrowed := true }
def HoldLevelsUptoSaid : Prop := holdLevelsUptoRow.holds Try.pinned (OpenSpec.upto holdLevelsSpec)

/-- 'ullagelaw02.HoldSums', WHERE WHAT IT READS IS OF BULK AT MOST 1048576: true; the input reads as it did. -/
def holdSumsUptoRow : OpenClaim := { program := "ytbjdgaeikihjbaa", sum := "25fbad2f2710ad6869092c51232bd214d5e15df2fd037f6dfa618fdd55fa78b3", func := "ullage/ullagelaw02.HoldSums", spec := "holdSums", unfollowed := true, recurses := true, apart := false, narrowed := true }
def HoldSumsUptoSaid : Prop := holdSumsUptoRow.holds Try.pinned (OpenSpec.upto holdSumsSpec)

end Rows
end Go.Proofs.Ytbjdgaeikihjbaa
