/-
  Where the volume of a hold becomes greater by the litres that are poured, the ullage behind lies within Pour's: the plain law.
  Conditions: each theorem's own premises.
-/
import Derived.Test.YtbjdgaeikihjbaaPlai
import Derived.Test.YtbjdgaeikihjbaaMom
import Derived.Test.YtbjdgaeikihjbaaPoua
namespace Go.Proofs.Ytbjdgaeikihjbaa
set_option linter.unusedSimpArgs false
set_option linter.unusedVariables false
open Go.RowKit

/-- The numbers of a curve within a table that numbers made are small. -/
theorem val_bd {xl : List Int} {ps : List Pt} (hm : Made xl ps) (hx : XsOk xl) (ht : Tab2 ps) {l : List Int} (hl : CurveIn ps l) {x : Int} (h1 : firstX ps ≤ x) (h2 : x ≤ lastX ps) :
    0 ≤ valN ps l x ∧ valN ps l x ≤ 800000 ∧ 1 ≤ valD ps x ∧ valD ps x ≤ 40 := by
  obtain ⟨k1, _, k3, k4⟩ := kOf_two ht h1 h2
  unfold valD valN
  generalize kOf ps x = k at *
  have i1 := hl.at_ k (by omega)
  have i2 := hl.at_ (k + 1) k1
  obtain ⟨a1, a2, a3, a4⟩ := hm.at_ k (by omega)
  obtain ⟨b1, b2, b3, b4⟩ := hm.at_ (k + 1) k1
  have hup := hx.up k (by have := hm.len; omega)
  rw [← a1, ← b1] at hup
  have m1 := Int.mul_nonneg (show 0 ≤ iv l k by omega) (show 0 ≤ (pt ps (k + 1)).x - x by omega)
  have m2 := Int.mul_nonneg (show 0 ≤ iv l (k + 1) by omega) (show 0 ≤ x - (pt ps k).x by omega)
  have m3 := Int.mul_le_mul_of_nonneg_right (show iv l k ≤ 20000 by omega) (show 0 ≤ (pt ps (k + 1)).x - x by omega)
  have m4 := Int.mul_le_mul_of_nonneg_right (show iv l (k + 1) ≤ 20000 by omega) (show 0 ≤ x - (pt ps k).x by omega)
  omega

theorem ends_in {ps : List Pt} {u r0 r1 : Int} (h : firstX ps ≤ r0 ∧ r1 ≤ lastX ps) (h1 : r0 ≤ u) (h2 : u ≤ r1) : firstX ps ≤ u ∧ u ≤ lastX ps := by omega

/-- What Pour's answer is, in the law's case. -/
structure PourOk (f : Fi) (rho : Rg) (to : Int) (g : Fi × Int) : Prop where
  e : g.2 = 0
  st : g.1.state = 3
  lo : g.1.ull.lo ≤ to
  hi : to ≤ g.1.ull.hi
  d1 : g.1.den.lo ≤ f.den.lo ∧ f.den.hi ≤ g.1.den.hi
  d2 : g.1.den.lo ≤ rho.lo ∧ rho.hi ≤ g.1.den.hi

theorem vol_three {h : Ho} (h0 : HoldOk h) {f : Fi} (h1 : FillIn h f) (h3 : f.state = 3) : volS h f = overS h.vol.ps f.ull := by
  obtain ⟨_, ⟨e, _⟩ | ⟨e, _⟩ | ⟨_, hp, _⟩⟩ := h1
  · omega
  · omega
  · unfold volS fillS
    rw [if_neg (by omega), if_pos (by omega)]
    unfold overE
    have hends := h0.tabs.1.ok.ends
    obtain ⟨p1, p2, p3⟩ := hp
    rw [if_pos h0.tabs.1.ok, if_pos (by unfold rangeErr; rw [if_neg (by omega)]), if_pos ⟨by omega, by omega⟩]

theorem poured_plain {r : Rw} {h : Ho} (hm : HoldMade r h) {f : Fi} (h1 : FillIn h f) (h3 : f.state = 3) {u to : Int} (hu : f.ull.lo ≤ u ∧ u ≤ f.ull.hi) (hto : firstX h.vol.ps ≤ to ∧ to ≤ u) {l : List Int} (hl : CurveIn h.vol.ps l)
    {rho : Rg} (hr : isDen rho) {q : Int} (hq : rho.lo ≤ q ∧ q ≤ rho.hi) {more : Int} (hmore : more = valN h.vol.ps l to * valD h.vol.ps u - valN h.vol.ps l u * valD h.vol.ps to) (h0 : 0 ≤ more) :
    (0 ≤ more * q ∧ more * q ≤ 1000000000000000000 ∧ 1 ≤ 1000 * valD h.vol.ps u * valD h.vol.ps to ∧ 1000 * valD h.vol.ps u * valD h.vol.ps to ≤ 1000000000000000000) ∧
      PourOk f rho to (pourE h f (aroS (more * q) (1000 * valD h.vol.ps u * valD h.vol.ps to)) rho) := by
  have hok := hm.ok
  have ht := hok.tabs.1
  have hpart : isPart f.ull (firstX h.vol.ps) (lastX h.vol.ps) := by
    obtain ⟨_, ⟨e, _⟩ | ⟨e, _⟩ | ⟨_, hp, _⟩⟩ := h1
    · omega
    · omega
    · exact hp
  obtain ⟨p1, p2, p3⟩ := hpart
  have v3 := vol_three hok h1 h3
  obtain ⟨a1, a2, a3, a4⟩ := val_bd hm.vol hm.xs.1 ht hl (x := u) (by omega) (by omega)
  obtain ⟨b1, b2, b3, b4⟩ := val_bd hm.vol hm.xs.1 ht hl (x := to) (by omega) (by omega)
  obtain ⟨_, c2, c3⟩ := val_in ht hl (x := u) (by omega) (by omega)
  obtain ⟨_, d2, d3⟩ := val_in ht hl (x := to) (by omega) (by omega)
  obtain ⟨o1, o2⟩ := over_has ht p1 p3 hu.1 hu.2
  generalize valN h.vol.ps l u = A at *
  generalize valD h.vol.ps u = B at *
  generalize valN h.vol.ps l to = I at *
  generalize valD h.vol.ps to = J at *
  obtain ⟨r1, r2, r3⟩ := hr
  have k1 : I * B ≤ 32000000 := by
    have := Int.mul_le_mul (show I ≤ 800000 by omega) (show B ≤ 40 by omega) (by omega) (by omega); omega
  have k2 : 0 ≤ A * J := Int.mul_nonneg a1 (by omega)
  have k3 : 1 ≤ B * J := by
    have := Int.mul_le_mul (show (1 : Int) ≤ B by omega) (show (1 : Int) ≤ J by omega) (by omega) (by omega); omega
  have k4 : B * J ≤ 1600 := by
    have := Int.mul_le_mul (show B ≤ 40 by omega) (show J ≤ 40 by omega) (by omega) (by omega); omega
  have k5 : 0 ≤ more * q := Int.mul_nonneg h0 (by omega)
  have k6 : more * q ≤ 64000000000 := by
    have := Int.mul_le_mul (show more ≤ 32000000 by omega) (show q ≤ 2000 by omega) (by omega) (by omega); omega
  have k7 : 1000 * B * J = 1000 * (B * J) := Int.mul_assoc _ _ _
  refine ⟨by omega, ?_⟩
  obtain ⟨m1, m2, m3⟩ := aro_has (more * q) (1000 * (B * J)) (by omega)
  rw [k7]
  have m4 : 0 ≤ (aroS (more * q) (1000 * (B * J))).lo := Int.ediv_nonneg k5 (by omega)
  have m5 : (aroS (more * q) (1000 * (B * J))).hi ≤ 64000000001 := by
    have := Int.ediv_le_self (1000 * (B * J)) k5
    unfold aroS
    split <;> (dsimp only; omega)
  generalize aroS (more * q) (1000 * (B * J)) = m at *
  obtain ⟨l1, l2⟩ := lit_has ⟨r1, r2, r3⟩ hq h0 k3 m1 m2 m4 (by omega)
  have hE := fillErr_ok hok h1
  have hM : massErr m rho = 0 := by
    unfold massErr
    rw [if_pos (by unfold rangeErr; rw [if_neg (by omega)]), if_pos ⟨r1, r2, r3⟩]
  -- what is asked of the inverse has the volume behind
  have hV : pourV h f m rho = ⟨(overS h.vol.ps f.ull).lo + (litS m rho).lo, (overS h.vol.ps f.ull).hi + (litS m rho).hi⟩ := by
    unfold pourV plusS; rw [v3]
  have w1 : (pourV h f m rho).lo ≤ (atS h.vol.ps to).hi := by
    rw [hV]
    dsimp only
    refine le_of_mul (d := J) (by omega) (le_of_mul (d := B) (by omega) ?_)
    have e1 : ((overS h.vol.ps f.ull).lo + (litS m rho).lo) * J * B = (overS h.vol.ps f.ull).lo * B * J + (litS m rho).lo * (B * J) := by
      rw [Int.add_mul, Int.add_mul, Int.mul_assoc, Int.mul_assoc, Int.mul_comm J B, ← Int.mul_assoc, ← Int.mul_assoc]
    have e2 : (overS h.vol.ps f.ull).lo * B ≤ A := Int.le_trans (Int.mul_le_mul_of_nonneg_right o1 (by omega)) c2
    have e3 := Int.mul_le_mul_of_nonneg_right e2 (show 0 ≤ J by omega)
    have e4 := Int.mul_le_mul_of_nonneg_right d3 (show 0 ≤ B by omega)
    rw [e1]
    omega
  have w2 : (atS h.vol.ps to).lo ≤ (pourV h f m rho).hi := by
    rw [hV]
    dsimp only
    refine le_of_mul (d := J) (by omega) (le_of_mul (d := B) (by omega) ?_)
    have e1 : ((overS h.vol.ps f.ull).hi + (litS m rho).hi) * J * B = (overS h.vol.ps f.ull).hi * B * J + (litS m rho).hi * (B * J) := by
      rw [Int.add_mul, Int.add_mul, Int.mul_assoc, Int.mul_assoc, Int.mul_comm J B, ← Int.mul_assoc, ← Int.mul_assoc]
    have e2 : A ≤ (overS h.vol.ps f.ull).hi * B := Int.le_trans c3 (Int.mul_le_mul_of_nonneg_right o2 (by omega))
    have e3 := Int.mul_le_mul_of_nonneg_right e2 (show 0 ≤ J by omega)
    have e4 := Int.mul_le_mul_of_nonneg_right d2 (show 0 ≤ B by omega)
    rw [e1]
    omega
  obtain ⟨i1, i2, i3, _, _⟩ := invDown_has ht hok.mv (by omega : firstX h.vol.ps ≤ to) (by omega) w2 w1
  change (pourU h f m rho).2 = true at i1
  change (pourU h f m rho).1.lo ≤ to at i2
  change to ≤ (pourU h f m rho).1.hi at i3
  have hP : pourE h f m rho = (⟨f.hold, 3, ⟨(pourU h f m rho).1.lo, min (pourU h f m rho).1.hi f.ull.hi⟩, hullS rho f.den⟩, 0) := by
    unfold pourE
    rw [if_neg (by omega), if_neg (by omega), if_neg (by omega), if_neg (by omega), if_neg (by omega), if_neg (by rintro (e | ⟨_, e⟩); rw [i1] at e; cases e; omega), if_pos h3]
  rw [hP]
  refine ⟨rfl, rfl, i2, ?_, ?_, ?_⟩
  · show to ≤ min (pourU h f m rho).1.hi f.ull.hi; omega
  · simp only [hullS]; omega
  · simp only [hullS]; omega

end Go.Proofs.Ytbjdgaeikihjbaa
