/-
  What the reference gathers over a range of places: plain facts; the greatest place as the reference finds it.
  Conditions: each theorem's own premises.
-/
import Derived.Test.YtbjdgaeikihjbaaLwst
namespace Go.Proofs.Ytbjdgaeikihjbaa
set_option linter.unusedSimpArgs false
set_option linter.unusedVariables false
open Go.RowKit

def hullR (a b : Rg) : Rg := ⟨min a.lo b.lo, max a.hi b.hi⟩
def refStep (r : Rg) (g : Rg) (p : Pt) : Rg := if r.lo < p.x ∧ p.x < r.hi then ⟨min g.lo p.lo, max g.hi p.hi⟩ else g
def refG (ps : List Pt) (r : Rg) (k : Nat) : Rg := (ps.take k).foldl (refStep r) (hullR (atS ps r.lo) (atS ps r.hi))
theorem refG_succ (ps : List Pt) (r : Rg) (k : Nat) (hk : k < ps.length) : refG ps r (k + 1) = refStep r (refG ps r k) (pt ps k) := by
  unfold refG
  rw [List.take_succ_eq_append_getElem hk, List.foldl_append]
  simp [pt, hk]

theorem gTake_hull (g r : Rg) (h : r.lo ≤ r.hi) : gTake (some g) r = ⟨min g.lo r.lo, max g.hi r.hi⟩ := by
  simp only [gTake, gAdd, Rg.mk.injEq]; omega
theorem gTake0_hull (r : Rg) (h : r.lo ≤ r.hi) : gTake none r = r := by
  obtain ⟨a, b⟩ := r
  simp only [gTake, gAdd, Rg.mk.injEq] at h ⊢; omega

theorem atS_pt {ps : List Pt} (ht : Tab2 ps) {k : Nat} (hk : k < ps.length) : atS ps (pt ps k).x = ⟨(pt ps k).lo, (pt ps k).hi⟩ := by
  have hok := ht.ok
  have h2 := ht.two
  by_cases h : k + 1 < ps.length
  · have hx := hok.lt (k + 1) k (by omega) h
    rw [atS_seg hok h (Int.le_refl _) (by omega)]
    obtain ⟨s1, s2⟩ := seg_start (pt ps k) (pt ps (k + 1)) hx
    rw [s1, s2]
  · have hx := hok.lt k (k - 1) (by omega) hk
    have hs := atS_seg hok (k := k - 1) (x := (pt ps k).x) (by omega) (by omega) (by rw [show k - 1 + 1 = k by omega]; omega)
    rw [show k - 1 + 1 = k by omega] at hs
    obtain ⟨s1, s2⟩ := seg_end (pt ps (k - 1)) (pt ps k) hx
    rw [hs, s1, s2]

theorem over_ref {ps : List Pt} (ht : Tab2 ps) {r : Rg} (h1 : firstX ps ≤ r.lo) (h2 : r.lo ≤ r.hi) (h3 : r.hi ≤ lastX ps) : ∀ k, k ≤ ps.length →
    overG ps r k = refG ps r k ∧ ((refG ps r k).lo ≤ (atS ps r.lo).lo ∧ (atS ps r.lo).hi ≤ (refG ps r k).hi) ∧ (refG ps r k).lo ≤ (atS ps r.hi).lo ∧ (atS ps r.hi).hi ≤ (refG ps r k).hi
  | 0, _ => by
    have e1 := atS_le ht.ok h1 (by omega : r.lo ≤ lastX ps)
    have e2 := atS_le ht.ok (by omega : firstX ps ≤ r.hi) h3
    unfold overG refG hullR
    simp only [List.take_zero, List.foldl_nil]
    rw [gTake_hull _ _ e2, gTake0_hull _ e1]
    simp only [true_and]
    omega
  | k + 1, hk => by
    obtain ⟨e, ⟨a1, a2⟩, b1, b2⟩ := over_ref ht h1 h2 h3 k (by omega)
    have ep := atS_pt ht (show k < ps.length by omega)
    obtain ⟨_, _, hp, _⟩ := ht.ok.all k (by omega)
    rw [overG_succ ps r k (by omega), refG_succ ps r k (by omega), e]
    generalize refG ps r k = G at *
    unfold overStep refStep
    by_cases c : r.lo < (pt ps k).x ∧ (pt ps k).x < r.hi
    · rw [if_pos c, if_pos ⟨by omega, by omega⟩, ep, gTake_hull _ _ hp]
      exact ⟨rfl, ⟨by dsimp only; omega, by dsimp only; omega⟩, by dsimp only; omega, by dsimp only; omega⟩
    · rw [if_neg c]
      refine ⟨?_, ⟨a1, a2⟩, b1, b2⟩
      by_cases d : r.lo ≤ (pt ps k).x ∧ (pt ps k).x ≤ r.hi
      · rw [if_pos d]
        have hh : (atS ps (pt ps k).x).lo ≤ (atS ps (pt ps k).x).hi := by rw [ep]; exact hp
        rw [gTake_hull _ _ hh]
        rcases (show (pt ps k).x = r.lo ∨ (pt ps k).x = r.hi by omega) with q | q
        · rw [q]; obtain ⟨g1, g2⟩ := G; simp only [Rg.mk.injEq]; dsimp only at *; omega
        · rw [q]; obtain ⟨g1, g2⟩ := G; simp only [Rg.mk.injEq]; dsimp only at *; omega
      · rw [if_neg d]

theorem overS_ref {ps : List Pt} (ht : Tab2 ps) {r : Rg} (hp : isPart r (firstX ps) (lastX ps)) : (overE ps r).1 = refG ps r ps.length := by
  rw [overE_eq ht hp]
  exact (over_ref ht hp.1 hp.2.1 hp.2.2 ps.length (Nat.le_refl _)).1

/-! ### The greatest place -/

/-- The place that the reference's loop over the points keeps. -/
def bestStep (ps : List Pt) (r : Rg) (b : Int) (p : Pt) : Int := if r.lo < p.x ∧ p.x ≤ r.hi ∧ (atS ps b).hi < (atS ps p.x).hi then p.x else b
def bestK (ps : List Pt) (r : Rg) (k : Nat) : Int := (ps.take k).foldl (bestStep ps r) r.lo
theorem bestK_succ (ps : List Pt) (r : Rg) (k : Nat) (hk : k < ps.length) : bestK ps r (k + 1) = bestStep ps r (bestK ps r k) (pt ps k) := by
  unfold bestK
  rw [List.take_succ_eq_append_getElem hk, List.foldl_append]
  simp [pt, hk]
theorem bestK_in {ps : List Pt} {r : Rg} (h : r.lo ≤ r.hi) : ∀ k, k ≤ ps.length → r.lo ≤ bestK ps r k ∧ bestK ps r k ≤ r.hi
  | 0, _ => by unfold bestK; simp only [List.take_zero, List.foldl_nil]; omega
  | k + 1, hk => by
    have := bestK_in (ps := ps) h k (by omega)
    rw [bestK_succ ps r k (by omega)]
    unfold bestStep
    split <;> omega

def bestE (ps : List Pt) (r : Rg) : Int := if (atS ps (bestK ps r ps.length)).hi < (atS ps r.hi).hi then r.hi else bestK ps r ps.length

theorem best_inv {ps : List Pt} (ht : Tab2 ps) {r : Rg} (hp : isPart r (firstX ps) (lastX ps)) : ∀ k, k ≤ ps.length →
    ∃ B, wFold ps (candK ps r k) = (B, (atS ps B).hi) ∧ (r.lo ≤ B ∧ B ≤ r.hi) ∧ (bestK ps r k = B ∨ (bestK ps r k = r.hi ∧ (atS ps B).hi < (atS ps r.hi).hi ∧ ∃ j, j < k ∧ (pt ps j).x = r.hi))
  | 0, _ => by
    obtain ⟨p1, p2, p3⟩ := hp
    have h0 := hiE_pos ht p1 (by omega : r.lo ≤ lastX ps)
    have e : hiE ps r.lo = (atS ps r.lo).hi := by unfold hiE; rw [atE_in ht.ok p1 (by omega)]
    refine ⟨r.lo, ?_, ⟨Int.le_refl _, p2⟩, .inl (by unfold bestK; simp)⟩
    unfold candK wFold
    simp only [List.foldl_cons, List.foldl_nil]
    unfold wStep
    rw [if_pos (by dsimp only; omega), e]
  | k + 1, hk => by
    obtain ⟨B, w1, w2, w3⟩ := best_inv ht hp k (by omega)
    obtain ⟨p1, p2, p3⟩ := hp
    rw [bestK_succ ps r k (by omega)]
    by_cases c : r.lo < (pt ps k).x ∧ (pt ps k).x < r.hi
    · have eB : bestK ps r k = B := by
        rcases w3 with w3 | ⟨_, _, j, j1, j2⟩
        · exact w3
        · have := ht.ok.lt k j j1 (by omega); omega
      have e : hiE ps (pt ps k).x = (atS ps (pt ps k).x).hi := by unfold hiE; rw [atE_in ht.ok (by omega) (by omega)]
      rw [show candK ps r (k + 1) = candK ps r k ++ [(pt ps k).x] from if_pos c, wFold_snoc, w1, eB]
      unfold wStep bestStep
      dsimp only
      rw [e]
      by_cases d : (atS ps B).hi < (atS ps (pt ps k).x).hi
      · rw [if_pos d, if_pos ⟨c.1, by omega, d⟩]
        exact ⟨_, rfl, ⟨by omega, by omega⟩, .inl rfl⟩
      · rw [if_neg d, if_neg (by omega)]
        exact ⟨_, rfl, w2, .inl rfl⟩
    · rw [show candK ps r (k + 1) = candK ps r k from if_neg c, w1]
      refine ⟨B, rfl, w2, ?_⟩
      unfold bestStep
      rcases w3 with w3 | ⟨v1, v2, j, j1, j2⟩
      · rw [w3]
        by_cases d : r.lo < (pt ps k).x ∧ (pt ps k).x ≤ r.hi ∧ (atS ps B).hi < (atS ps (pt ps k).x).hi
        · have q : (pt ps k).x = r.hi := by omega
          rw [if_pos d, q]
          rw [q] at d
          exact .inr ⟨rfl, d.2.2, k, by omega, q⟩
        · rw [if_neg d]; exact .inl rfl
      · have := ht.ok.lt k j j1 (by omega)
        rw [if_neg (by omega)]
        exact .inr ⟨v1, v2, j, by omega, j2⟩

/-- The greatest place of the two is one. -/
theorem best_eq {ps : List Pt} (ht : Tab2 ps) {r : Rg} (hp : isPart r (firstX ps) (lastX ps)) : wFold ps (candS ps r) = (bestE ps r, (atS ps (bestE ps r)).hi) := by
  obtain ⟨B, w1, w2, w3⟩ := best_inv ht hp ps.length (Nat.le_refl _)
  have hp' := hp
  obtain ⟨p1, p2, p3⟩ := hp
  have e : hiE ps r.hi = (atS ps r.hi).hi := by unfold hiE; rw [atE_in ht.ok (by omega) p3]
  rw [show candS ps r = candK ps r ps.length ++ [r.hi] from rfl, wFold_snoc, w1]
  unfold wStep bestE
  dsimp only
  rw [e]
  rcases w3 with w3 | ⟨v1, v2, _⟩
  · rw [w3]
    split <;> rfl
  · rw [v1, if_pos v2, if_neg (by omega)]

/-- The first place with the greatest number, as one goes back from another one. -/
theorem worst_back {ps : List Pt} (ht : Tab2 ps) {r : Rg} (hp : isPart r (firstX ps) (lastX ps)) :
    (worS ps r).2 = (atS ps (bestE ps r)).hi ∧ (r.lo ≤ (worS ps r).1 ∧ (worS ps r).1 ≤ bestE ps r ∧ bestE ps r ≤ r.hi) ∧ (∀ y, (worS ps r).1 ≤ y → y ≤ bestE ps r → (atS ps y).hi = (worS ps r).2) ∧ ((worS ps r).1 = r.lo ∨ (r.lo < (worS ps r).1 ∧ (atS ps ((worS ps r).1 - 1)).hi ≠ (worS ps r).2)) := by
  have hb := best_eq ht hp
  obtain ⟨p1, p2, p3⟩ := hp
  obtain ⟨⟨a1, a2, a3, a4⟩, b1, b2, b3, b4, b5⟩ := worst_mono ht p2 p1 p3 rfl rfl
  rw [hb] at a1 a2 a3 a4 b1 b2 b3 b4 b5
  dsimp only at a1 a2 a3 a4 b1 b2 b3 b4 b5
  have hw : worS ps r = (earlS ps r.lo (bestE ps r) (atS ps (bestE ps r)).hi, (atS ps (bestE ps r)).hi) := by
    unfold worS; rw [hb]
  rw [hw]
  dsimp only
  generalize bestE ps r = x at *
  generalize hm : (atS ps x).hi = m at *
  have hat : ∀ y, r.lo ≤ y → y ≤ r.hi → hiE ps y = (atS ps y).hi := fun y h1 h2 => by unfold hiE; rw [atE_in ht.ok (by omega) (by omega)]
  obtain ⟨s1, s2, s3, s4⟩ := searchS_spec (q := fun y => decide (m ≤ hiE ps y)) (a := startS ps r.lo x) (b := x) (by omega) (fun y z e1 e2 e3 hx => by
    have := b4 y z e1 e2 e3
    simp only [decide_eq_true_eq] at hx ⊢
    omega)
  change startS ps r.lo x ≤ earlS ps r.lo x m at s1
  change earlS ps r.lo x m ≤ x + 1 at s2
  change ∀ y, _ → y < earlS ps r.lo x m → _ at s3
  change ∀ y, earlS ps r.lo x m ≤ y → _ at s4
  generalize earlS ps r.lo x m = L at *
  have hLx : L ≤ x := by
    apply Classical.byContradiction
    intro hc
    have := s3 x b2 (by omega)
    simp only [decide_eq_false_iff_not] at this
    omega
  refine ⟨rfl, ⟨by omega, hLx, a2⟩, fun y h1 h2 => ?_, ?_⟩
  · have g1 := s4 y h1 h2
    have g2 := b4 y x (by omega) h2 (Int.le_refl _)
    simp only [decide_eq_true_eq] at g1
    rw [hat y (by omega) (by omega)] at g1 g2
    omega
  · by_cases c : L = r.lo
    · exact .inl c
    · refine .inr ⟨by omega, ?_⟩
      by_cases d : startS ps r.lo x < L
      · have := s3 (L - 1) (by omega) (by omega)
        simp only [decide_eq_false_iff_not] at this
        rw [hat (L - 1) (by omega) (by omega)] at this
        omega
      · have eL : startS ps r.lo x = L := by omega
        have g1 := s4 L (Int.le_refl _) hLx
        simp only [decide_eq_true_eq] at g1
        rcases b5 (.inl (by omega)) with g | g
        · rw [eL] at g; omega
        · -- the beginning lies ahead of the place
          exfalso
          obtain ⟨_, _, s5⟩ := startK_spec ps x r.lo ps.length
          change startS ps r.lo x = _ ∨ ∃ j, _ ∧ startS ps r.lo x = _ ∧ _ at s5
          rcases s5 with s5 | ⟨j, _, j2, j3⟩
          · omega
          · omega

end Go.Proofs.Ytbjdgaeikihjbaa
