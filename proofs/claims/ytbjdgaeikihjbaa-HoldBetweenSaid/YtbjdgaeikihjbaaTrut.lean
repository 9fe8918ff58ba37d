/-
  Numbers that choose curves, and what is so, as they lie in memory; a curve's contract with its value's.
  Conditions: each theorem's own premises.
-/
import Derived.Test.YtbjdgaeikihjbaaMadi
namespace Go.Proofs.Ytbjdgaeikihjbaa
set_option linter.unusedSimpArgs false
set_option linter.unusedVariables false
open Go.RowKit

/-- Numbers that choose curves, and what is so. -/
structure Tr where
  c0 : Is
  c1 : Is
  c2 : Is
  place : Int
  dense : Int
structure Tr.At (w : World) (t : Tr) : Prop where
  c0 : t.c0.At w
  c1 : t.c1.At w
  c2 : t.c2.At w
  place : I64 t.place
  dense : I64 t.dense

theorem tdiv_i64 {a : Int} (h : I64 a) (b : Int) (hb : 1 ≤ b) : -9223372036854775808 ≤ a.tdiv b ∧ a.tdiv b ≤ 9223372036854775807 := by
  obtain ⟨h1, h2⟩ := h
  by_cases e : a = -9223372036854775808
  · subst e
    have h3 : (-9223372036854775808 : Int).tdiv b = -((9223372036854775808 : Int).tdiv b) := Int.neg_tdiv _ _
    have h4 := Int.ediv_le_self b (show (0 : Int) ≤ 9223372036854775808 by omega)
    have h5 := Int.ediv_nonneg (show (0 : Int) ≤ 9223372036854775808 by omega) (show 0 ≤ b by omega)
    rw [h3, Int.tdiv_eq_ediv_of_nonneg (show (0 : Int) ≤ 9223372036854775808 by omega)]
    omega
  · have := tdiv_bd a b hb
    omega

theorem Tb.At.drew {w : World} {t : Tb} (h : t.At w) : t.At w.drew := h
theorem Is.At.drew {w : World} {t : Is} (h : t.At w) : t.At w.drew := h
theorem Ho.At.drew {w : World} {t : Ho} (h : t.At w) : t.At w.drew := h
theorem Tk.At.drew {w : World} {t : Tk} (h : t.At w) : t.At w.drew := h

/-- A table's curve, and a place of the table: the two contracts, to be used one behind the other. -/
def CurveCall (t : Tb) (s : Is) (W : World) : Prop := t.At W → s.At W → Calls Try.prog 21 #[.agg #[.slice (t).p (t).n (t).c], .slice s.p s.n s.c] W (CurvePost t.ps s.xs W)
def ValueCall (t : Tb) (s : Is) (x : Int) (W : World) : Prop := ∀ g n c, t.At W → Is.At W ⟨some ⟨g, 0, none⟩, n, c, curS t.ps s.xs t.ps.length⟩ →
  Calls Try.prog 22 #[.agg #[.slice (t).p (t).n (t).c], .slice (some ⟨g, 0, none⟩) n c, .int .i64 x] W fun e w' => e = .returned (.tuple #[.int .i64 (valN t.ps (curS t.ps s.xs t.ps.length) x), .int .i64 (valD t.ps x)]) ∧ Below W.heap.size W w'
theorem R2_CurveAt (t : Tb) (s : Is) (x : Int) (W : World) (h : Tab2 t.ps) (hx : firstX t.ps ≤ x ∧ x ≤ lastX t.ps) : CurveCall t s W ∧ ValueCall t s x W :=
  ⟨fun h1 h2 => R2_Curve t s W h1 h2 h.ok, fun g n c h1 h2 => R2_Value t ⟨some ⟨g, 0, none⟩, n, c, curS t.ps s.xs t.ps.length⟩ x W h1 h2 h (curS_in h.ok s.xs) hx⟩

end Go.Proofs.Ytbjdgaeikihjbaa
