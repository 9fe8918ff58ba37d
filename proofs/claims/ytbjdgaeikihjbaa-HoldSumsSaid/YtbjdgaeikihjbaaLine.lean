/-
  Plain facts of the values of a table: their bounds, and that the lower one is at most the upper one.
  Conditions: each theorem's own premises.
-/
import Derived.Test.YtbjdgaeikihjbaaFille
namespace Go.Proofs.Ytbjdgaeikihjbaa
set_option linter.unusedSimpArgs false
set_option linter.unusedVariables false
open Go.RowKit

/-- A range's numbers lie within bounds. -/
structure RgIn (r : Rg) (L U : Int) : Prop where
  a : L ≤ r.lo
  b : r.lo ≤ r.hi
  c : r.hi ≤ U

/-- The number at a place of a line between two points, times their distance. -/
def lin (a b : Pt) (y z x : Int) : Int := y * (b.x - x) + z * (x - a.x)
theorem lin_mono (a b : Pt) (y z y' z' x : Int) (h1 : a.x ≤ x) (h2 : x ≤ b.x) (hy : y ≤ y') (hz : z ≤ z') : lin a b y z x ≤ lin a b y' z' x := by
  unfold lin
  have a1 := Int.mul_le_mul_of_nonneg_right hy (show 0 ≤ b.x - x by omega)
  have a2 := Int.mul_le_mul_of_nonneg_right hz (show 0 ≤ x - a.x by omega)
  omega
theorem lin_same (a b : Pt) (y x : Int) : lin a b y y x = y * (b.x - a.x) := by
  unfold lin
  rw [← Int.mul_add]
  congr 1
  omega
theorem segLo_le (a b : Pt) (x : Int) (h : a.x < b.x) : segLo a b x * (b.x - a.x) ≤ lin a b a.lo b.lo x := Int.ediv_mul_le _ (by omega)
theorem segHi_ge (a b : Pt) (x : Int) (h : a.x < b.x) : lin a b a.hi b.hi x ≤ segHi a b x * (b.x - a.x) := by
  have h := Int.ediv_mul_le (-(a.hi * (b.x - x) + b.hi * (x - a.x))) (show b.x - a.x ≠ 0 by omega)
  unfold segHi lin
  rw [Int.neg_mul]
  omega
theorem segLo_ge (a b : Pt) (x : Int) (L : Int) (h : a.x < b.x) (hl : L * (b.x - a.x) ≤ lin a b a.lo b.lo x) : L ≤ segLo a b x := Int.le_ediv_of_mul_le (by omega) hl
theorem segHi_le (a b : Pt) (x : Int) (U : Int) (h : a.x < b.x) (hl : lin a b a.hi b.hi x ≤ U * (b.x - a.x)) : segHi a b x ≤ U := by
  have h := Int.le_ediv_of_mul_le (c := b.x - a.x) (a := -U) (b := -(lin a b a.hi b.hi x)) (by omega) (by rw [Int.neg_mul]; omega)
  unfold segHi
  unfold lin at h
  omega
theorem le_of_mul {p q d : Int} (hd : 0 < d) (h : p * d ≤ q * d) : p ≤ q := Int.le_of_mul_le_mul_right h hd

theorem seg_in (a b : Pt) (x L U : Int) (hp : PieceOk a b) (h1 : a.x ≤ x) (h2 : x ≤ b.x) (la : L ≤ a.lo) (lb : L ≤ b.lo) (ua : a.hi ≤ U) (ub : b.hi ≤ U) : RgIn ⟨segLo a b x, segHi a b x⟩ L U := by
  have hlt := hp.lt
  refine ⟨segLo_ge a b x L hlt ?_, ?_, segHi_le a b x U hlt ?_⟩
  · rw [← lin_same a b L x]; exact lin_mono a b _ _ _ _ x h1 h2 la lb
  · refine le_of_mul (d := b.x - a.x) (by omega) ?_
    exact Int.le_trans (segLo_le a b x hlt) (Int.le_trans (lin_mono a b _ _ _ _ x h1 h2 hp.ale hp.ble) (segHi_ge a b x hlt))
  · rw [← lin_same a b U x]; exact lin_mono a b _ _ _ _ x h1 h2 ua ub

theorem atS_in {ps : List Pt} (hok : TabOk ps) {x : Int} (h1 : firstX ps ≤ x) (h2 : x ≤ lastX ps) (L U : Int) (hL : ∀ k, k < ps.length → L ≤ (pt ps k).lo ∧ (pt ps k).hi ≤ U) : RgIn (atS ps x) L U := by
  obtain ⟨a1, _, a3⟩ := kOf_spec hok h1 h2
  have hany := hok.any a1
  have hpos := hok.pos
  unfold atS pcAt
  generalize hk : kOf ps x = k at *
  by_cases hl : ps.length = 1
  · have hp : pieceAt ps k = (pt ps 0, pt ps 0) := if_pos hl
    rw [hp, if_pos rfl]
    obtain ⟨b1, b2⟩ := hL 0 (by omega)
    obtain ⟨_, _, b3, _⟩ := hok.all 0 (by omega)
    exact ⟨b1, b3, b2⟩
  · have hp : pieceAt ps k = (pt ps k, pt ps (k + 1)) := if_neg hl
    have hk2 : k + 1 < ps.length := by unfold nPieces at a1; rw [if_neg hl] at a1; omega
    have hok' := hok.piece hk2
    rw [hp] at a3 ⊢
    have hne : ¬(pt ps k = pt ps (k + 1)) := fun e => by have := hok'.lt; rw [e] at this; omega
    dsimp only
    rw [if_neg hne]
    obtain ⟨b1, b2⟩ := hL k (by omega)
    obtain ⟨c1, c2⟩ := hL (k + 1) hk2
    exact seg_in _ _ x L U hok' a3.1 a3.2 b1 c1 b2 c2

theorem gTake_in {g r : Rg} {L U : Int} (hg : RgIn g L U) (hr : RgIn r L U) : RgIn (gTake (some g) r) L U := by
  obtain ⟨a1, a2, a3⟩ := hg
  obtain ⟨b1, b2, b3⟩ := hr
  refine ⟨?_, ?_, ?_⟩ <;> (simp only [gTake, gAdd]; omega)
theorem gTake0_in {r : Rg} {L U : Int} (hr : RgIn r L U) : RgIn (gTake none r) L U := by
  obtain ⟨b1, b2, b3⟩ := hr
  refine ⟨?_, ?_, ?_⟩ <;> (simp only [gTake, gAdd]; omega)

theorem overS_in {ps : List Pt} (hok : TabOk ps) {r : Rg} (h1 : firstX ps ≤ r.lo) (h2 : r.lo ≤ r.hi) (h3 : r.hi ≤ lastX ps) (L U : Int) (hL : ∀ k, k < ps.length → L ≤ (pt ps k).lo ∧ (pt ps k).hi ≤ U) : RgIn (overS ps r) L U := by
  have key : ∀ k, k ≤ ps.length → RgIn (overG ps r k) L U := by
    intro k
    induction k with
    | zero =>
      intro _
      exact gTake_in (gTake0_in (atS_in hok h1 (by omega) L U hL)) (atS_in hok (by omega) h3 L U hL)
    | succ k ih =>
      intro hk
      rw [overG_succ ps r k (by omega)]
      unfold overStep
      by_cases hc : r.lo ≤ (pt ps k).x ∧ (pt ps k).x ≤ r.hi
      · rw [if_pos hc]
        exact gTake_in (ih (by omega)) (atS_in hok (by omega) (by omega) L U hL)
      · rw [if_neg hc]; exact ih (by omega)
  exact key _ (Nat.le_refl _)

theorem overE_in {ps : List Pt} {r : Rg} (L U : Int) (h0 : L ≤ 0) (h1 : 0 ≤ U) (hL : TabOk ps → ∀ k, k < ps.length → L ≤ (pt ps k).lo ∧ (pt ps k).hi ≤ U) : RgIn (overE ps r).1 L U := by
  unfold overE
  by_cases hok : TabOk ps
  · rw [if_pos hok]
    rcases rangeErr_cases r with ⟨e, h2, _⟩ | ⟨e, _⟩
    · rw [if_pos e]
      by_cases hin : firstX ps ≤ r.lo ∧ r.hi ≤ lastX ps
      · rw [if_pos hin]; exact overS_in hok hin.1 h2 hin.2 L U (hL hok)
      · rw [if_neg hin]; exact ⟨h0, Int.le_refl _, h1⟩
    · rw [if_neg (by omega)]; exact ⟨h0, Int.le_refl _, h1⟩
  · rw [if_neg hok]; exact ⟨h0, Int.le_refl _, h1⟩

/-- The values of any table, and those of a table without numbers below 0. -/
theorem overE_any (ps : List Pt) (r : Rg) : RgIn (overE ps r).1 (-1000000000) 1000000000 :=
  overE_in _ _ (by omega) (by omega) (fun hok k hk => by obtain ⟨_, _, _, a, b, _⟩ := hok.all k hk; exact ⟨a, b⟩)
theorem overE_pos {ps : List Pt} (h : Tab2 ps) (r : Rg) : RgIn (overE ps r).1 0 1000000000 :=
  overE_in _ _ (by omega) (by omega) (fun hok k hk => by
    obtain ⟨_, _, _, a, b, _⟩ := hok.all k hk
    refine ⟨?_, b⟩
    have := h.pos
    unfold hasNeg at this
    apply Classical.byContradiction
    intro hc
    exact this ⟨k, hk, by omega⟩)
theorem atE_any (ps : List Pt) (x : Int) : RgIn (atE ps x).1 (-1000000000) 1000000000 := by
  unfold atE
  by_cases hok : TabOk ps
  · rw [if_pos hok]
    by_cases hin : firstX ps ≤ x ∧ x ≤ lastX ps
    · rw [if_pos hin]; exact atS_in hok hin.1 hin.2 _ _ (fun k hk => by obtain ⟨_, _, _, a, b, _⟩ := hok.all k hk; exact ⟨a, b⟩)
    · rw [if_neg hin]; exact ⟨by decide, by decide, by decide⟩
  · rw [if_neg hok]; exact ⟨by decide, by decide, by decide⟩

end Go.Proofs.Ytbjdgaeikihjbaa
