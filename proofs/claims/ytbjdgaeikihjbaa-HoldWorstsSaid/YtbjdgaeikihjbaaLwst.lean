/-
  The worst place of a fill: its value is the greatest that is told of the moment; the place lies within the fill's ullage and has the value: the plain law.
  Conditions: each theorem's own premises.
-/
import Derived.Test.YtbjdgaeikihjbaaLbou
import Derived.Test.YtbjdgaeikihjbaaWort
namespace Go.Proofs.Ytbjdgaeikihjbaa
set_option linter.unusedSimpArgs false
set_option linter.unusedVariables false
open Go.RowKit

theorem gTake_hi (g r : Rg) (M : Int) (h1 : g.hi ≤ M) (h2 : r.hi ≤ M) (h3 : r.lo ≤ r.hi) : (gTake (some g) r).hi ≤ M := by
  simp only [gTake, gAdd]; omega
theorem gTake0_hi (r : Rg) (M : Int) (h2 : r.hi ≤ M) (h3 : r.lo ≤ r.hi) : (gTake none r).hi ≤ M := by
  simp only [gTake, gAdd]; omega

theorem overG_hi {ps : List Pt} (hok : TabOk ps) {r : Rg} (h1 : firstX ps ≤ r.lo) (h2 : r.lo ≤ r.hi) (h3 : r.hi ≤ lastX ps) (M : Int) (a : (atS ps r.lo).hi ≤ M) (b : (atS ps r.hi).hi ≤ M)
    (c : ∀ j, j < ps.length → r.lo ≤ (pt ps j).x → (pt ps j).x ≤ r.hi → (atS ps (pt ps j).x).hi ≤ M) : ∀ k, k ≤ ps.length → (overG ps r k).hi ≤ M
  | 0, _ => by
    have e1 := atS_le hok h1 (by omega : r.lo ≤ lastX ps)
    have e2 := atS_le hok (by omega : firstX ps ≤ r.hi) h3
    unfold overG
    simp only [List.take_zero, List.foldl_nil]
    exact gTake_hi _ _ M (gTake0_hi _ M a e1) b e2
  | k + 1, hk => by
    have ih := overG_hi hok h1 h2 h3 M a b c k (by omega)
    rw [overG_succ ps r k (by omega)]
    unfold overStep
    split
    · rename_i hc
      exact gTake_hi _ _ M ih (c k (by omega) hc.1 hc.2) (atS_le hok (by omega) (by omega))
    · exact ih

theorem worst_eq {ps : List Pt} (h : Tab2 ps) {r : Rg} (hp : isPart r (firstX ps) (lastX ps)) :
    (worS ps r).2 = (overE ps r).1.hi ∧ (r.lo ≤ (worS ps r).1 ∧ (worS ps r).1 ≤ r.hi) ∧ hiE ps (worS ps r).1 = (worS ps r).2 := by
  have hp' := hp
  obtain ⟨p1, p2, p3⟩ := hp
  obtain ⟨⟨a1, a2, a3, a4⟩, b1, b2, b3, b4, _⟩ := worst_mono h p2 p1 p3 rfl rfl
  have hm : ∀ x y, startS ps r.lo (wFold ps (candS ps r)).1 ≤ x → x ≤ y → y ≤ (wFold ps (candS ps r)).1 → (decide ((wFold ps (candS ps r)).2 ≤ hiE ps x)) = true → (decide ((wFold ps (candS ps r)).2 ≤ hiE ps y)) = true := fun x y e1 e2 e3 hx => by
    have := b4 x y e1 e2 e3
    simp only [decide_eq_true_eq] at hx ⊢
    omega
  obtain ⟨s1, s2, s3, s4⟩ := searchS_spec (q := fun y => decide ((wFold ps (candS ps r)).2 ≤ hiE ps y)) (a := startS ps r.lo (wFold ps (candS ps r)).1) (b := (wFold ps (candS ps r)).1) (by omega) hm
  change startS ps r.lo (wFold ps (candS ps r)).1 ≤ (worS ps r).1 at s1
  change (worS ps r).1 ≤ (wFold ps (candS ps r)).1 + 1 at s2
  change ∀ x, _ → x < (worS ps r).1 → _ at s3
  change ∀ x, (worS ps r).1 ≤ x → _ at s4
  have e2 : (worS ps r).2 = (wFold ps (candS ps r)).2 := rfl
  have hle : (worS ps r).1 ≤ (wFold ps (candS ps r)).1 := by
    apply Classical.byContradiction
    intro hc
    have := s3 (wFold ps (candS ps r)).1 b2 (by omega)
    simp only [decide_eq_false_iff_not] at this
    omega
  have hgt : (worS ps r).2 ≤ hiE ps (worS ps r).1 := by
    have := s4 (worS ps r).1 (Int.le_refl _) hle
    simp only [decide_eq_true_eq] at this
    rw [e2]; exact this
  have hup : ∀ x, r.lo ≤ x → x ≤ r.hi → hiE ps x ≤ (overE ps r).1.hi := fun x h1 h2 => by
    unfold hiE
    rw [overE_eq h hp', atE_in h.ok (by omega) (by omega)]
    exact (over_has h p1 p3 h1 h2).2
  have hat : ∀ x, r.lo ≤ x → x ≤ r.hi → hiE ps x = (atS ps x).hi := fun x h1 h2 => by unfold hiE; rw [atE_in h.ok (by omega) (by omega)]
  have hlo : r.lo ∈ candS ps r := by unfold candS; simp [candK_lo]
  have hhi : r.hi ∈ candS ps r := by unfold candS; simp
  have hov : (overE ps r).1.hi ≤ (worS ps r).2 := by
    rw [overE_eq h hp', e2]
    refine overG_hi h.ok p1 p2 p3 _ ?_ ?_ (fun j hj h1 h2 => ?_) _ (Nat.le_refl _)
    · rw [← hat _ (Int.le_refl _) p2]; exact b3 _ hlo
    · rw [← hat _ p2 (Int.le_refl _)]; exact b3 _ hhi
    · rw [← hat _ h1 h2]
      rcases Int.lt_or_eq_of_le h1 with c | c
      · rcases Int.lt_or_eq_of_le h2 with d | d
        · exact b3 _ (by unfold candS; simp [candK_mem ps.length j hj c d])
        · rw [d]; exact b3 _ hhi
      · rw [← c]; exact b3 _ hlo
  have h5 := hup (worS ps r).1 (by omega) (by omega)
  exact ⟨by omega, ⟨by omega, by omega⟩, by omega⟩

/-- CheckWorst's answer. -/
def chkS (h : Ho) (f : Fi) (u m : Int) : Int :=
  if fillErr h f = 0 then (if f.state = 3 then (if (f.ull.lo ≤ u ∧ u ≤ f.ull.hi) ∧ m = (wrsE h f).2 ∧ hiE h.mom.ps u = m then 0 else 1) else (if u = 0 ∧ m = (wrsE h f).2 then 0 else 1)) else fillErr h f

structure WorstOk (h : Ho) (f : Fi) : Prop where
  e : fillErr h f = 0
  c : (wrsE h f).2 = (momE h f).hi
  y : chkS h f (wrsE h f).1 (wrsE h f).2 = 0
  n : chkS h f (wrsE h f).1 ((wrsE h f).2 + 1) = 1
  r : 0 ≤ (wrsE h f).2 ∧ (wrsE h f).2 ≤ 1000000000
  z : f.state ≠ 3 → (wrsE h f).1 = 0
  a : f.state = 3 → f.ull.lo ≤ (wrsE h f).1 ∧ (wrsE h f).1 ≤ f.ull.hi

theorem worst_plain {h : Ho} (h0 : HoldOk h) {f : Fi} (h1 : FillIn h f) : WorstOk h f := by
  have hE := fillErr_ok h0 h1
  have eM : momE h f = momS h f := if_pos hE
  obtain ⟨t1, ⟨t2, s2⟩, _⟩ := h0.tabs
  by_cases h3 : f.state = 3
  · obtain ⟨_, hp, _⟩ := fill_free h1 (by omega)
    rw [← s2.1, ← s2.2] at hp
    obtain ⟨w1, w2, w3⟩ := worst_eq t2 hp
    have hw : wrsE h f = worS h.mom.ps f.ull := by unfold wrsE; rw [if_pos hE, if_pos h3]
    have hms : momS h f = (overE h.mom.ps f.ull).1 := by unfold momS; rw [if_neg (by omega), if_neg (by omega), if_pos h3]
    have hr := overE_pos t2 f.ull
    have hr1 := hr.a; have hr2 := hr.b; have hr3 := hr.c
    refine ⟨hE, by rw [hw, eM, hms, w1], ?_, ?_, by rw [hw, w1]; omega, fun e => absurd h3 e, fun _ => by rw [hw]; exact w2⟩
    · unfold chkS; rw [if_pos hE, if_pos h3, hw, if_pos ⟨w2, rfl, w3⟩]
    · unfold chkS; rw [if_pos hE, if_pos h3, hw, if_neg (by omega)]
  · have hw : wrsE h f = (0, (momS h f).hi) := by unfold wrsE; rw [if_pos hE, if_neg h3]
    have hr := momS_in h0 f
    have hr1 := hr.a; have hr2 := hr.b; have hr3 := hr.c
    refine ⟨hE, by rw [hw, eM], ?_, ?_, by rw [hw]; dsimp only; omega, fun _ => by rw [hw], fun e => absurd e h3⟩
    · unfold chkS; rw [if_pos hE, if_neg h3, hw, if_pos ⟨rfl, rfl⟩]
    · unfold chkS; rw [if_pos hE, if_neg h3, hw, if_neg (by dsimp only; omega)]

end Go.Proofs.Ytbjdgaeikihjbaa
