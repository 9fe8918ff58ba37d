/-
  Where the volume of a hold becomes less by the litres that are drawn, the ullage behind lies within Draw's: the plain law.
  Conditions: each theorem's own premises.
-/
import Derived.Test.YtbjdgaeikihjbaaLbou
namespace Go.Proofs.Ytbjdgaeikihjbaa
set_option linter.unusedSimpArgs false
set_option linter.unusedVariables false
open Go.RowKit

/-- What is asked of the inverse when something is drawn. -/
def drawV (h : Ho) (f : Fi) (m : Rg) : Rg := ⟨max ((volS h f).lo - (litS m f.den).hi) 0, (volS h f).hi - (litS m f.den).lo⟩
def drawU (h : Ho) (f : Fi) (m : Rg) : Rg × Bool := invDown h.vol.ps (drawV h f m)
/-- The fill behind drawing, and the error. -/
def drawE (h : Ho) (f : Fi) (m : Rg) : Fi × Int :=
  if fillErr h f ≠ 0 then (zeroF, fillErr h f) else if rangeErr m ≠ 0 then (zeroF, rangeErr m) else if m.lo < 0 then (zeroF, 1)
  else if ¬(1 ≤ f.state ∧ f.state ≤ 3) then (zeroF, 22)
  else if (drawV h f m).hi < 0 then (zeroF, 24)
  else if (drawU h f m).2 = false ∨ (f.state = 3 ∧ (drawU h f m).1.hi < f.ull.lo) then (zeroF, 24)
  else if f.state = 3 then (⟨f.hold, 3, ⟨max (drawU h f m).1.lo f.ull.lo, (drawU h f m).1.hi⟩, f.den⟩, 0)
  else (⟨f.hold, 3, (drawU h f m).1, f.den⟩, 0)

/-- What Draw's answer is, in the law's case. -/
structure DrawOk (f : Fi) (to : Int) (g : Fi × Int) : Prop where
  e : g.2 = 0
  st : g.1.state = 3
  lo : g.1.ull.lo ≤ to
  hi : to ≤ g.1.ull.hi
  d : g.1.den = f.den

theorem drawn_plain {r : Rw} {h : Ho} (hm : HoldMade r h) {f : Fi} (h1 : FillIn h f) (h3 : f.state = 3) {u to : Int} (hu : f.ull.lo ≤ u ∧ u ≤ f.ull.hi) (hto : u ≤ to ∧ to ≤ lastX h.vol.ps) {l : List Int} (hl : CurveIn h.vol.ps l)
    {q : Int} (hq : f.den.lo ≤ q ∧ q ≤ f.den.hi) {less : Int} (hless : less = valN h.vol.ps l u * valD h.vol.ps to - valN h.vol.ps l to * valD h.vol.ps u) (h0 : 0 ≤ less) :
    (0 ≤ less * q ∧ less * q ≤ 1000000000000000000 ∧ 1 ≤ 1000 * valD h.vol.ps u * valD h.vol.ps to ∧ 1000 * valD h.vol.ps u * valD h.vol.ps to ≤ 1000000000000000000) ∧
      DrawOk f to (drawE h f (aroS (less * q) (1000 * valD h.vol.ps u * valD h.vol.ps to))) := by
  have hok := hm.ok
  have ht := hok.tabs.1
  obtain ⟨_, hpart, hden⟩ := fill_free h1 (by omega)
  obtain ⟨p1, p2, p3⟩ := hpart
  have v3 := vol_three hok h1 h3
  obtain ⟨a1, a2, a3, a4⟩ := val_bd hm.vol hm.xs.1 ht hl (x := u) (by omega) (by omega)
  obtain ⟨b1, b2, b3, b4⟩ := val_bd hm.vol hm.xs.1 ht hl (x := to) (by omega) (by omega)
  obtain ⟨_, c2, c3⟩ := val_in ht hl (x := u) (by omega) (by omega)
  obtain ⟨_, d2, d3⟩ := val_in ht hl (x := to) (by omega) (by omega)
  obtain ⟨o1, o2⟩ := over_has ht p1 p3 hu.1 hu.2
  have hz : 0 ≤ (atS h.vol.ps to).lo := by
    have := (atS_in ht.ok (show firstX h.vol.ps ≤ to by omega) (show to ≤ lastX h.vol.ps by omega) 0 1000000000 (fun k hk => by
      obtain ⟨_, _, _, _, z5, _⟩ := ht.ok.all k hk
      refine ⟨?_, z5⟩
      apply Classical.byContradiction
      intro hc
      exact ht.pos ⟨k, hk, by omega⟩)).a
    exact this
  have hz2 := atS_le ht.ok (show firstX h.vol.ps ≤ to by omega) (show to ≤ lastX h.vol.ps by omega)
  generalize valN h.vol.ps l u = A at *
  generalize valD h.vol.ps u = B at *
  generalize valN h.vol.ps l to = I at *
  generalize valD h.vol.ps to = J at *
  obtain ⟨r1, r2, r3⟩ := hden
  have k1 : A * J ≤ 32000000 := by
    have := Int.mul_le_mul (show A ≤ 800000 by omega) (show J ≤ 40 by omega) (by omega) (by omega); omega
  have k2 : 0 ≤ I * B := Int.mul_nonneg b1 (by omega)
  have k3 : 1 ≤ B * J := by
    have := Int.mul_le_mul (show (1 : Int) ≤ B by omega) (show (1 : Int) ≤ J by omega) (by omega) (by omega); omega
  have k4 : B * J ≤ 1600 := by
    have := Int.mul_le_mul (show B ≤ 40 by omega) (show J ≤ 40 by omega) (by omega) (by omega); omega
  have k5 : 0 ≤ less * q := Int.mul_nonneg h0 (by omega)
  have k6 : less * q ≤ 64000000000 := by
    have := Int.mul_le_mul (show less ≤ 32000000 by omega) (show q ≤ 2000 by omega) (by omega) (by omega); omega
  have k7 : 1000 * B * J = 1000 * (B * J) := Int.mul_assoc _ _ _
  refine ⟨by omega, ?_⟩
  obtain ⟨m1, m2, m3⟩ := aro_has (less * q) (1000 * (B * J)) (by omega)
  rw [k7]
  have m4 : 0 ≤ (aroS (less * q) (1000 * (B * J))).lo := Int.ediv_nonneg k5 (by omega)
  have m5 : (aroS (less * q) (1000 * (B * J))).hi ≤ 64000000001 := by
    have := Int.ediv_le_self (1000 * (B * J)) k5
    unfold aroS
    split <;> (dsimp only; omega)
  generalize aroS (less * q) (1000 * (B * J)) = m at *
  obtain ⟨l1, l2⟩ := lit_has ⟨r1, r2, r3⟩ hq h0 k3 m1 m2 m4 (by omega)
  have hE := fillErr_ok hok h1
  have hM : rangeErr m = 0 := by unfold rangeErr; rw [if_neg (by omega)]
  have hV : drawV h f m = ⟨max ((overS h.vol.ps f.ull).lo - (litS m f.den).hi) 0, (overS h.vol.ps f.ull).hi - (litS m f.den).lo⟩ := by
    unfold drawV; rw [v3]
  have w1 : (drawV h f m).lo ≤ (atS h.vol.ps to).hi := by
    rw [hV]
    dsimp only
    have key : (overS h.vol.ps f.ull).lo - (litS m f.den).hi ≤ (atS h.vol.ps to).hi := by
      refine le_of_mul (d := J) (by omega) (le_of_mul (d := B) (by omega) ?_)
      have e1 : ((overS h.vol.ps f.ull).lo - (litS m f.den).hi) * J * B = (overS h.vol.ps f.ull).lo * B * J - (litS m f.den).hi * (B * J) := by
        rw [Int.sub_mul, Int.sub_mul, Int.mul_assoc, Int.mul_assoc, Int.mul_comm J B, ← Int.mul_assoc, ← Int.mul_assoc]
      have e2 : (overS h.vol.ps f.ull).lo * B ≤ A := Int.le_trans (Int.mul_le_mul_of_nonneg_right o1 (by omega)) c2
      have e3 := Int.mul_le_mul_of_nonneg_right e2 (show 0 ≤ J by omega)
      have e4 := Int.mul_le_mul_of_nonneg_right d3 (show 0 ≤ B by omega)
      rw [e1]
      omega
    omega
  have w2 : (atS h.vol.ps to).lo ≤ (drawV h f m).hi := by
    rw [hV]
    dsimp only
    refine le_of_mul (d := J) (by omega) (le_of_mul (d := B) (by omega) ?_)
    have e1 : ((overS h.vol.ps f.ull).hi - (litS m f.den).lo) * J * B = (overS h.vol.ps f.ull).hi * B * J - (litS m f.den).lo * (B * J) := by
      rw [Int.sub_mul, Int.sub_mul, Int.mul_assoc, Int.mul_assoc, Int.mul_comm J B, ← Int.mul_assoc, ← Int.mul_assoc]
    have e2 : A ≤ (overS h.vol.ps f.ull).hi * B := Int.le_trans c3 (Int.mul_le_mul_of_nonneg_right o2 (by omega))
    have e3 := Int.mul_le_mul_of_nonneg_right e2 (show 0 ≤ J by omega)
    have e4 := Int.mul_le_mul_of_nonneg_right d2 (show 0 ≤ B by omega)
    rw [e1]
    omega
  obtain ⟨i1, i2, i3, _, _⟩ := invDown_has ht hok.mv (by omega : firstX h.vol.ps ≤ to) (by omega) w2 w1
  change (drawU h f m).2 = true at i1
  change (drawU h f m).1.lo ≤ to at i2
  change to ≤ (drawU h f m).1.hi at i3
  have hP : drawE h f m = (⟨f.hold, 3, ⟨max (drawU h f m).1.lo f.ull.lo, (drawU h f m).1.hi⟩, f.den⟩, 0) := by
    unfold drawE
    rw [if_neg (by omega), if_neg (by omega), if_neg (by omega), if_neg (by omega), if_neg (by omega), if_neg (by rintro (e | ⟨_, e⟩); rw [i1] at e; cases e; omega), if_pos h3]
  rw [hP]
  refine ⟨rfl, rfl, ?_, i3, rfl⟩
  show max (drawU h f m).1.lo f.ull.lo ≤ to
  omega

end Go.Proofs.Ytbjdgaeikihjbaa
