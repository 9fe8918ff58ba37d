/-
  What is told of a tank bounds every curve within its tables: the plain law.
  Conditions: each theorem's own premises.
-/
import Derived.Test.YtbjdgaeikihjbaaLbou
import Derived.Test.YtbjdgaeikihjbaaTnk
import Derived.Test.YtbjdgaeikihjbaaLiq
namespace Go.Proofs.Ytbjdgaeikihjbaa
set_option linter.unusedSimpArgs false
set_option linter.unusedVariables false
open Go.RowKit

/-- The valid level of a valid tank that numbers describe. -/
def lvS (t : Tk) (x0 x1 x2 x3 x4 : Int) : Lv := ⟨t.id, decide (x0 % 5 = 4), if x0 % 5 = 4 then ⟨lastX t.vol.ps, lastX t.vol.ps⟩ else spanS (firstX t.vol.ps) (lastX t.vol.ps) x1 x2, denS x3 x4⟩
theorem lvS_in {t : Tk} (h0 : TankOk t) (x0 x1 x2 x3 x4 : Int) : LevelIn t (lvS t x0 x1 x2 x3 x4) := by
  have he := h0.tabs.1.ok.ends.2.1
  refine ⟨rfl, denS_in _ _, ?_, ?_⟩
  · unfold lvS
    dsimp only
    split
    · exact ⟨he, Int.le_refl _, Int.le_refl _⟩
    · exact spanS_in _ _ _ _ he
  · unfold lvS
    dsimp only
    intro h
    rw [decide_eq_true_eq] at h
    rw [if_pos h]

structure LevelsOk (t : Tk) (l : Lv) (v n m o z p q : Int) : Prop where
  e : levelErr t l = 0
  a : WithinS (liqE t l) (v * q) (1000 * n)
  i : WithinS (overE t.hei.ps l.snd).1 z p
  w : balE t l = ⟨liqE t l, t.along, (overE t.hei.ps l.snd).1⟩
  s : WithinS (srfE t l) (m * q) (1000 * o)
  pr : l.pressed = true → srfE t l = ⟨0, 0⟩
  ra : RgIn (liqE t l) 0 2000000000
  ri : RgIn (overE t.hei.ps l.snd).1 0 1000000000
  rs : RgIn (srfE t l) 0 2000000000
  vn : (0 ≤ v ∧ v ≤ 800000) ∧ (1 ≤ n ∧ n ≤ 40)
  mo : (0 ≤ m ∧ m ≤ 800000) ∧ (1 ≤ o ∧ o ≤ 40)
  zp : (0 ≤ z ∧ z ≤ 800000) ∧ (1 ≤ p ∧ p ≤ 40)

theorem levels_plain {r : Rw} {t : Tk} (hm : TankMade r t) {l : Lv} (h1 : LevelIn t l) {u : Int} (hu : l.snd.lo ≤ u ∧ u ≤ l.snd.hi)
    {l0 l1 l2 : List Int} (hl0 : CurveIn t.vol.ps l0) (hl1 : CurveIn t.sur.ps l1) (hl2 : CurveIn t.hei.ps l2) {q : Int} (hq : l.den.lo ≤ q ∧ q ≤ l.den.hi) {m : Int} (hmm : m = if l.pressed = true ∨ valN t.vol.ps l0 u = 0 then 0 else valN t.sur.ps l1 u) :
    LevelsOk t l (valN t.vol.ps l0 u) (valD t.vol.ps u) m (valD t.sur.ps u) (valN t.hei.ps l2 u) (valD t.hei.ps u) q := by
  have hok := hm.ok
  obtain ⟨t1, ⟨t2, s2⟩, ⟨t3, s3⟩⟩ := hok.tabs
  have hE := levelErr_yes hok h1
  have hd := h1.2.1
  have hp : isPart l.snd (firstX t.vol.ps) (lastX t.vol.ps) := h1.2.2.1
  have hp2 : isPart l.snd (firstX t.sur.ps) (lastX t.sur.ps) := by rw [s2.1, s2.2]; exact hp
  have hp3 : isPart l.snd (firstX t.hei.ps) (lastX t.hei.ps) := by rw [s3.1, s3.2]; exact hp
  obtain ⟨q1, q2, q3⟩ := hd
  have v1 := val_bd hm.vol hm.xs.1 t1 hl0 (x := u) (by have := hp.1; omega) (by have := hp.2.2; omega)
  have v2 := val_bd hm.sur hm.xs.1 t2 hl1 (x := u) (by have := hp2.1; omega) (by have := hp2.2.2; omega)
  have v3 := val_bd hm.hei hm.xs.1 t3 hl2 (x := u) (by have := hp3.1; omega) (by have := hp3.2.2; omega)
  have eL : liqE t l = weighS (heldS t l) l.den := if_pos hE
  have eS : srfE t l = srfS t l := if_pos hE
  have eB : balE t l = ⟨weighS (heldS t l) l.den, t.along, (overE t.hei.ps l.snd).1⟩ := if_pos hE
  have w1 : WithinS (heldS t l) (valN t.vol.ps l0 u) (valD t.vol.ps u) := curve_over t1 hp hl0 hu
  have w2 := curve_over t2 hp2 hl1 hu
  have w3 := curve_over t3 hp3 hl2 hu
  have r1 : RgIn (heldS t l) 0 1000000000 := overE_pos t1 _
  have r2 := overE_pos t2 l.snd
  have r3 := overE_pos t3 l.snd
  have hdn : RgIn l.den 0 2000 := ⟨by omega, by omega, by omega⟩
  have rw2 := weigh_in r2 hdn
  have a1 := r1.a; have a2 := r1.b; have a3 := r1.c
  have b1 := rw2.a; have b2 := rw2.b; have b3 := rw2.c
  obtain ⟨c1, c2⟩ := w1
  have hz : RgIn ⟨0, 0⟩ 0 2000000000 := zero_in (by omega) (by omega)
  have key : WithinS (srfS t l) (m * q) (1000 * valD t.sur.ps u) ∧ RgIn (srfS t l) 0 2000000000 ∧ (l.pressed = true → srfS t l = ⟨0, 0⟩) ∧ 0 ≤ m ∧ m ≤ 800000 := by
    by_cases hpr : l.pressed = true
    · have e0 : srfS t l = ⟨0, 0⟩ := if_pos (.inl hpr)
      have e1 : m = 0 := by rw [hmm, if_pos (.inl hpr)]
      rw [e0, e1]
      exact ⟨⟨by simp, by simp⟩, hz, fun _ => rfl, by omega, by omega⟩
    · by_cases hh : (heldS t l).hi = 0
      · have e0 : srfS t l = ⟨0, 0⟩ := if_pos (.inr hh)
        have ev : valN t.vol.ps l0 u = 0 := by rw [hh, Int.zero_mul] at c2; omega
        have e1 : m = 0 := by rw [hmm, if_pos (.inr ev)]
        rw [e0, e1]
        exact ⟨⟨by simp, by simp⟩, hz, fun _ => rfl, by omega, by omega⟩
      · have wg := weigh_has (q := q) r2.a w2 (by omega) (by omega) (by have := r2.a; have := r2.b; omega) (show 0 ≤ l.den.lo by omega) hq
        obtain ⟨g1, g2⟩ := wg
        by_cases hl : (heldS t l).lo = 0
        · have e0 : srfS t l = ⟨0, (weighS (overE t.sur.ps l.snd).1 l.den).hi⟩ := by unfold srfS; rw [if_neg (by rintro (e | e); exact hpr e; exact hh e), if_pos hl]
          rw [e0]
          have hi0 := Int.mul_nonneg (show 0 ≤ (weighS (overE t.sur.ps l.snd).1 l.den).hi by omega) (show 0 ≤ 1000 * valD t.sur.ps u by omega)
          by_cases ev : valN t.vol.ps l0 u = 0
          · have e1 : m = 0 := by rw [hmm, if_pos (.inr ev)]
            rw [e1]
            refine ⟨⟨by simp, ?_⟩, ⟨by dsimp only; omega, by dsimp only; omega, b3⟩, fun e => absurd e hpr, by omega, by omega⟩
            rw [Int.zero_mul]; exact hi0
          · have e1 : m = valN t.sur.ps l1 u := by rw [hmm, if_neg (by rintro (e | e); exact hpr e; exact ev e)]
            rw [e1]
            refine ⟨⟨?_, g2⟩, ⟨by dsimp only; omega, by dsimp only; omega, b3⟩, fun e => absurd e hpr, by omega, by omega⟩
            dsimp only
            rw [Int.zero_mul]
            exact Int.mul_nonneg (by omega) (by omega)
        · have e0 : srfS t l = weighS (overE t.sur.ps l.snd).1 l.den := by unfold srfS; rw [if_neg (by rintro (e | e); exact hpr e; exact hh e), if_neg hl]
          have hp1 : 1 ≤ (heldS t l).lo * valD t.vol.ps u := by
            have := Int.mul_le_mul (show (1 : Int) ≤ (heldS t l).lo by omega) (show (1 : Int) ≤ valD t.vol.ps u by omega) (by omega) (by omega)
            omega
          have e1 : m = valN t.sur.ps l1 u := by rw [hmm, if_neg (by rintro (e | e); exact hpr e; omega)]
          rw [e0, e1]
          exact ⟨⟨g1, g2⟩, rw2, fun e => absurd e hpr, by omega, by omega⟩
  refine ⟨hE, ?_, w3, by rw [eB, eL], by rw [eS]; exact key.1, by rw [eS]; exact key.2.2.1, by rw [eL]; exact weigh_in r1 hdn, r3, by rw [eS]; exact key.2.1, by omega, by omega, by omega⟩
  rw [eL]
  exact weigh_has r1.a ⟨c1, c2⟩ (by omega) (by omega) (by omega) (by omega) hq

end Go.Proofs.Ytbjdgaeikihjbaa
