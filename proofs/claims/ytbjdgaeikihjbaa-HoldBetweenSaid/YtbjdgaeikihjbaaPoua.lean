/-
  hold: Pour.
  Conditions: each theorem's own premises.
-/
import Derived.Test.YtbjdgaeikihjbaaPour
import Derived.Laws.CopyOwn
namespace Go.Proofs.Ytbjdgaeikihjbaa
set_option linter.unusedSimpArgs false
set_option linter.unusedVariables false
open Go.RowKit
set_option maxRecDepth 100000
set_option maxHeartbeats 4000000
attribute [local go_sem] Instr.field asAgg Soft.upon Soft.BW.cell_if Soft.BW.frozen_if Soft.cell_alloc_if Soft.frozen_alloc_if

def zeroF : Fi := ⟨0, 0, ⟨0, 0⟩, ⟨0, 0⟩⟩
/-- What is asked of the inverse when more is poured. -/
def pourV (h : Ho) (f : Fi) (m d : Rg) : Rg := plusS (volS h f) (litS m d)
def pourU (h : Ho) (f : Fi) (m d : Rg) : Rg × Bool := invDown h.vol.ps (pourV h f m d)
/-- The fill behind pouring, and the error. -/
def pourE (h : Ho) (f : Fi) (m d : Rg) : Fi × Int :=
  if fillErr h f ≠ 0 then (zeroF, fillErr h f) else if massErr m d ≠ 0 then (zeroF, massErr m d) else if m.lo < 0 then (zeroF, 1)
  else if f.state = 4 ∨ f.state = 5 then (zeroF, 22) else if f.state = 1 ∨ f.state = 2 then (zeroF, 24)
  else if (pourU h f m d).2 = false ∨ (f.state = 3 ∧ f.ull.hi < (pourU h f m d).1.lo) then (zeroF, 24)
  else if f.state = 3 then (⟨f.hold, 3, ⟨(pourU h f m d).1.lo, min (pourU h f m d).1.hi f.ull.hi⟩, hullS d f.den⟩, 0)
  else (⟨f.hold, 3, (pourU h f m d).1, d⟩, 0)

theorem lit_in {m d : Rg} (hm : rangeErr m = 0) (hd : isDen d) : -10000000000000000 ≤ (litS m d).lo ∧ (litS m d).lo ≤ 10000000000000000 ∧ -10000000000000000 ≤ (litS m d).hi ∧ (litS m d).hi ≤ 10000000000000000 := by
  obtain ⟨b1, b2, b3⟩ := hd
  have key : ∀ a e : Int, -1000000000000000 ≤ a → a ≤ 1000000000000000 → 100 ≤ e → -10000000000000000 ≤ 1000 * a / e ∧ 1000 * a / e ≤ 10000000000000000 := fun a e h1 h2 h3 => by
    refine ⟨Int.le_ediv_of_mul_le (by omega) (by omega), ?_⟩
    have := Int.ediv_mul_le (1000 * a) (show e ≠ 0 by omega)
    apply Classical.byContradiction
    intro hc
    have h4 : 10000000000000001 * 100 ≤ 1000 * a / e * e := Int.mul_le_mul (by omega) h3 (by omega) (by omega)
    omega
  obtain ⟨_, m1, m2, m3⟩ | ⟨hne, _⟩ := rangeErr_cases m
  · unfold litS litLo litHi
    dsimp only
    have k1 := key m.lo (if m.lo < 0 then d.lo else d.hi) (by omega) (by omega) (by split <;> omega)
    have k2 := key (-m.hi) (if m.hi < 0 then d.hi else d.lo) (by omega) (by omega) (by split <;> omega)
    rw [show 1000 * -m.hi = -(1000 * m.hi) by omega] at k2
    omega
  · omega

theorem HasBlk.rowx {W : World} {B : Nat} {c : Array Value} {t : TypeId} (h : HasBlk W B c t) {g : Nat} (hg : B ≠ g) (cs : Array Value) : HasBlk (W.setRow g cs) B c t := (setRow_other W g B cs hg).trans h
theorem Tb.At.rowx {w : World} {t : Tb} (h : t.At w) {g : Nat} (hg : ∀ b o, t.p = some ⟨b, o, none⟩ → b ≠ g) (cs : Array Value) : t.At (w.setRow g cs) := by
  obtain ⟨h1, h2, h3, h4, h5⟩ := h
  refine ⟨h1, h2, h3, h4, fun hn => ?_⟩
  obtain ⟨b, o, e, hlt, hc⟩ := h5 hn
  have key : ∀ i, (w.setRow g cs).cell? ⟨b, i, none⟩ = w.cell? ⟨b, i, none⟩ := fun i => World.cell?_of_block (w := w) (setRow_other w g b cs (hg b o e))
  refine ⟨b, o, e, by simpa [World.setRow] using hlt, fun i hi => ?_⟩
  rw [key, key, key]
  exact hc i hi

end Go.Proofs.Ytbjdgaeikihjbaa
