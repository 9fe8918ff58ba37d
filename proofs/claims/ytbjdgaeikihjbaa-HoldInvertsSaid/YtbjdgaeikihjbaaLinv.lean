/-
  A mass that a table's volume at a place has, for a density: the place lies within the inverse: the plain law.
  Conditions: each theorem's own premises.
-/
import Derived.Test.YtbjdgaeikihjbaaLbou
namespace Go.Proofs.Ytbjdgaeikihjbaa
set_option linter.unusedSimpArgs false
set_option linter.unusedVariables false
open Go.RowKit

/-- A range with more above. -/
def moreHi (r : Rg) (k : Int) : Rg := ⟨r.lo, r.hi + k⟩

/-- What is asked of the inverse. -/
structure AskOk (ps : List Pt) (N n q : Int) (m rho : Rg) (x : Int) : Prop where
  n1 : 0 ≤ N * q
  n2 : N * q ≤ 1000000000000000000
  n3 : 1 ≤ 1000 * n
  n4 : 1000 * n ≤ 1000000000000000000
  m0 : massErr m rho = 0
  hi : (atS ps x).lo ≤ (litS m rho).hi
  lo : (litS m rho).lo ≤ (atS ps x).hi

theorem ask_ok {xl : List Int} {ps : List Pt} (hm : Made xl ps) (hx : XsOk xl) (ht : Tab2 ps) {l : List Int} (hl : CurveIn ps l) {x : Int} (h1 : firstX ps ≤ x) (h2 : x ≤ lastX ps) {rho : Rg} (hr : isDen rho) {q : Int} (hq : rho.lo ≤ q ∧ q ≤ rho.hi) {k : Int} (hk : 0 ≤ k ∧ k ≤ 5) :
    AskOk ps (valN ps l x) (valD ps x) q (moreHi (aroS (valN ps l x * q) (1000 * valD ps x)) k) rho x := by
  obtain ⟨a1, a2, a3, a4⟩ := val_bd hm hx ht hl h1 h2
  obtain ⟨_, c2, c3⟩ := val_in ht hl h1 h2
  generalize valN ps l x = A at *
  generalize valD ps x = B at *
  obtain ⟨r1, r2, r3⟩ := hr
  have k5 : 0 ≤ A * q := Int.mul_nonneg a1 (by omega)
  have k6 : A * q ≤ 1600000000 := by
    have := Int.mul_le_mul (show A ≤ 800000 by omega) (show q ≤ 2000 by omega) (by omega) (by omega); omega
  obtain ⟨m1, m2, m3⟩ := aro_has (A * q) (1000 * B) (by omega)
  have m4 : 0 ≤ (aroS (A * q) (1000 * B)).lo := Int.ediv_nonneg k5 (by omega)
  have m5 : (aroS (A * q) (1000 * B)).hi ≤ 1600000001 := by
    have := Int.ediv_le_self (1000 * B) k5
    unfold aroS
    split <;> (dsimp only; omega)
  generalize aroS (A * q) (1000 * B) = m at *
  have m6 : A * q ≤ (moreHi m k).hi * (1000 * B) := by
    unfold moreHi
    dsimp only
    rw [Int.add_mul]
    have := Int.mul_nonneg hk.1 (show 0 ≤ 1000 * B by omega)
    omega
  have m7 : (moreHi m k).lo = m.lo := rfl
  have m8 : (moreHi m k).hi = m.hi + k := rfl
  obtain ⟨l1, l2⟩ := lit_has (m := moreHi m k) ⟨r1, r2, r3⟩ hq a1 a3 (by rw [m7]; exact m1) m6 (by omega) (by omega)
  refine ⟨k5, by omega, by omega, by omega, ?_, ?_, ?_⟩
  · unfold massErr
    rw [if_pos (by unfold rangeErr; rw [if_neg (by omega)]), if_pos ⟨r1, r2, r3⟩]
  · exact le_of_mul (d := B) (by omega) (Int.le_trans c2 l2)
  · exact le_of_mul (d := B) (by omega) (Int.le_trans l1 c3)

theorem ull_has {r : Rw} {h : Ho} (hm : HoldMade r h) {N n q : Int} {m rho : Rg} {x : Int} (h1 : firstX h.vol.ps ≤ x) (h2 : x ≤ lastX h.vol.ps) (ha : AskOk h.vol.ps N n q m rho x) :
    (ullE h m rho).2 = 0 ∧ (ullE h m rho).1.lo ≤ x ∧ x ≤ (ullE h m rho).1.hi := by
  have hok := hm.ok
  obtain ⟨i1, i2, i3, _, _⟩ := invDown_has hok.tabs.1 hok.mv h1 h2 ha.hi ha.lo
  have e : ullE h m rho = ((invDown h.vol.ps (litS m rho)).1, 0) := by
    unfold ullE
    rw [if_pos (by unfold holdErr; rw [if_pos hok]), if_pos ha.m0, if_pos i1]
  rw [e]
  exact ⟨rfl, i2, i3⟩

theorem snd_has {t : Tk} (hok : TankOk t) {N n q : Int} {m rho : Rg} {x : Int} (h1 : firstX t.vol.ps ≤ x) (h2 : x ≤ lastX t.vol.ps) (ha : AskOk t.vol.ps N n q m rho x) :
    (sndE t m rho).2 = 0 ∧ (sndE t m rho).1.lo ≤ x ∧ x ≤ (sndE t m rho).1.hi := by
  obtain ⟨i1, i2, i3, _, _⟩ := invUp_has hok.tabs.1 hok.mv h1 h2 ha.hi ha.lo
  have e : sndE t m rho = ((invUp t.vol.ps (litS m rho)).1, 0) := by
    unfold sndE
    rw [if_pos (by unfold tankErr; rw [if_pos hok]), if_pos ha.m0, if_pos i1]
  rw [e]
  exact ⟨rfl, i2, i3⟩

end Go.Proofs.Ytbjdgaeikihjbaa
