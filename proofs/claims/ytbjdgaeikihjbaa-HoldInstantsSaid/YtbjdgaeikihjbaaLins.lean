/-
  On the way from one fill to another one a hold's moment is within that of a fill between: the plain law.
  Conditions: each theorem's own premises.
-/
import Derived.Test.YtbjdgaeikihjbaaLbou
import Derived.Test.YtbjdgaeikihjbaaBetw
namespace Go.Proofs.Ytbjdgaeikihjbaa
set_option linter.unusedSimpArgs false
set_option linter.unusedVariables false
open Go.RowKit

theorem hull_part {a b : Rg} {L U : Int} (h1 : isPart a L U) (h2 : isPart b L U) : isPart (hullS a b) L U := by
  obtain ⟨a1, a2, a3⟩ := h1
  obtain ⟨b1, b2, b3⟩ := h2
  unfold isPart hullS
  dsimp only
  omega
theorem place_part {h : Ho} (h0 : HoldOk h) {f : Fi} (h1 : FillIn h f) : isPart (placeS h f) (firstX h.vol.ps) (lastX h.vol.ps) := by
  have he := h0.tabs.1.ok.ends.2.1
  unfold placeS
  split
  · exact ⟨Int.le_refl _, Int.le_refl _, he⟩
  · split
    · rename_i c; exact (fill_free h1 c.1).2.1
    · exact ⟨he, Int.le_refl _, Int.le_refl _⟩

theorem fill_den1 {h : Ho} {f : Fi} (h1 : FillIn h f) (hs : 1 ≤ f.state) : isDen f.den := by
  obtain ⟨_, ⟨e, _⟩ | ⟨_, _, hd⟩ | ⟨_, _, hd⟩⟩ := h1
  · omega
  · exact hd
  · exact hd

/-- The fill between two of them that the law looks at. -/
def betM (h : Ho) (f g : Fi) : Fi := if f.state = g.state then ⟨f.hold, f.state, hullS f.ull g.ull, hullS f.den g.den⟩ else midS h f g

theorem betM_in {h : Ho} (h0 : HoldOk h) {f g : Fi} (h1 : FillIn h f) (h2 : FillIn h g) : FillIn h (betM h f g) := by
  unfold betM
  split
  · rename_i e
    obtain ⟨a, ⟨a1, a2, a3⟩ | ⟨a1, a2, a3⟩ | ⟨a1, a2, a3⟩⟩ := h1
    · obtain ⟨_, ⟨b1, b2, b3⟩ | ⟨b1, _⟩ | ⟨b1, _⟩⟩ := h2
      · exact ⟨a, .inl ⟨a1, by rw [a2, b2]; rfl, by rw [a3, b3]; rfl⟩⟩
      · omega
      · omega
    · obtain ⟨_, ⟨b1, _⟩ | ⟨b1, b2, b3⟩ | ⟨b1, _⟩⟩ := h2
      · omega
      · exact ⟨a, .inr (.inl ⟨a1, by rw [a2, b2]; rfl, hull_part a3 b3⟩)⟩
      · omega
    · obtain ⟨_, ⟨b1, _⟩ | ⟨b1, _⟩ | ⟨b1, b2, b3⟩⟩ := h2
      · omega
      · omega
      · exact ⟨a, .inr (.inr ⟨a1, hull_part a2 b2, hull_part a3 b3⟩)⟩
  · rename_i e
    refine ⟨h1.1, .inr (.inr ⟨⟨by unfold midS; dsimp only; omega, by unfold midS; dsimp only; omega⟩, hull_part (place_part h0 h1) (place_part h0 h2), ?_⟩)⟩
    unfold midS
    dsimp only
    split
    · exact fill_den1 h1 (by have := state_in h1; omega)
    · split
      · exact fill_den1 h2 (by have := state_in h2; omega)
      · exact hull_part (fill_den1 h1 (by have := state_in h1; omega)) (fill_den1 h2 (by have := state_in h2; omega))

structure InsOk (h : Ho) (f g : Fi) (u : Int) : Prop where
  e : fillErr h (betM h f g) = 0
  s : f.state = g.state → betE h f g = ([betM h f g], 0) ∧ (betM h f g).state = f.state
  d : f.state ≠ g.state → betE h f g = ([f, betM h f g, g], 0) ∧ (betM h f g).state = 3
  w : (betM h f g).state = 3 → ∀ l, CurveIn h.mom.ps l → WithinS (momE h (betM h f g)) (valN h.mom.ps l u) (valD h.mom.ps u)
  d1 : f.state ≠ 0 → (betM h f g).den.lo ≤ f.den.lo ∧ f.den.hi ≤ (betM h f g).den.hi
  d2 : g.state ≠ 0 → (betM h f g).den.lo ≤ g.den.lo ∧ g.den.hi ≤ (betM h f g).den.hi
  u : firstX h.mom.ps ≤ u ∧ u ≤ lastX h.mom.ps
  r : RgIn (momE h (betM h f g)) 0 1000000000

theorem ins_plain {h : Ho} (h0 : HoldOk h) {f g : Fi} (h1 : FillIn h f) (h2 : FillIn h g) {a b u : Int} (ha : (placeS h f).lo ≤ a ∧ a ≤ (placeS h f).hi) (hb : (placeS h g).lo ≤ b ∧ b ≤ (placeS h g).hi) (hu : min a b ≤ u ∧ u ≤ max a b) : InsOk h f g u := by
  have hM := betM_in h0 h1 h2
  have hE := fillErr_ok h0 hM
  have e1 := fillErr_ok h0 h1
  have e2 := fillErr_ok h0 h2
  obtain ⟨t1, ⟨t2, s2⟩, _⟩ := h0.tabs
  obtain ⟨p1, p2, p3⟩ := place_part h0 h1
  obtain ⟨q1, q2, q3⟩ := place_part h0 h2
  have hs1 := state_in h1
  have hs2 := state_in h2
  refine ⟨hE, fun e => ?_, fun e => ?_, fun h3 l hl => ?_, fun hz => ?_, fun hz => ?_, by rw [s2.1, s2.2]; omega, ?_⟩
  · unfold betE betM
    rw [if_neg (by omega), if_neg (by omega), if_pos e, if_pos e]
    exact ⟨rfl, rfl⟩
  · unfold betE betM
    rw [if_neg (by omega), if_neg (by omega), if_neg e, if_neg e]
    exact ⟨rfl, rfl⟩
  · obtain ⟨_, hp, _⟩ := fill_free hM (by omega)
    rw [← s2.1, ← s2.2] at hp
    rw [show momE h (betM h f g) = (overE h.mom.ps (betM h f g).ull).1 by unfold momE momS; rw [if_pos hE, if_neg (by omega), if_neg (by omega), if_pos h3]]
    refine curve_over t2 hp hl ?_
    unfold betM at h3 ⊢
    split
    · rename_i e
      rw [if_pos e] at h3
      dsimp only at h3
      have c1 : placeS h f = f.ull := by unfold placeS; rw [if_neg (by omega), if_pos (by omega)]
      have c2 : placeS h g = g.ull := by unfold placeS; rw [if_neg (by omega), if_pos (by omega)]
      rw [c1] at ha
      rw [c2] at hb
      simp only [hullS]
      omega
    · simp only [midS, hullS]
      omega
  · unfold betM
    split
    · simp only [hullS]; omega
    · unfold midS
      dsimp only
      split
      · exact ⟨Int.le_refl _, Int.le_refl _⟩
      · simp only [hullS]; omega
  · unfold betM
    split
    · simp only [hullS]; omega
    · unfold midS
      dsimp only
      rw [if_neg hz]
      split
      · exact ⟨Int.le_refl _, Int.le_refl _⟩
      · simp only [hullS]; omega
  · rw [show momE h (betM h f g) = momS h (betM h f g) from if_pos hE]
    exact momS_in h0 _

end Go.Proofs.Ytbjdgaeikihjbaa
