/-
  What the reference gathers over a range of places, and what drawing comes to, where no makers are there.
  Conditions: each theorem's own premises.
-/
import Derived.Test.YtbjdgaeikihjbaaGreatNorm
import Derived.Test.YtbjdgaeikihjbaaGreatMom
namespace Go.Proofs.YtbjdgaeikihjbaaGreat
set_option linter.unusedSimpArgs false
set_option linter.unusedVariables false
open Go.RowKit

theorem atS_le {ps : List Pt} (hok : TabOk ps) {x : Int} (h1 : firstX ps ≤ x) (h2 : x ≤ lastX ps) : (atS ps x).lo ≤ (atS ps x).hi :=
  (atS_in hok h1 h2 (-1000000000) 1000000000 (fun k hk => by obtain ⟨_, _, _, a, b, _⟩ := hok.all k hk; exact ⟨a, b⟩)).b

theorem fill_free {h : Ho} {f : Fi} (h1 : FillIn h f) (h3 : 3 ≤ f.state) : (3 ≤ f.state ∧ f.state ≤ 5) ∧ isPart f.ull (firstX h.vol.ps) (lastX h.vol.ps) ∧ isDen f.den := by
  obtain ⟨_, ⟨e, _⟩ | ⟨e, _⟩ | ⟨e, hp, hd⟩⟩ := h1
  · omega
  · omega
  · exact ⟨e, hp, hd⟩

theorem overE_eq {ps : List Pt} (ht : Tab2 ps) {r : Rg} (h : isPart r (firstX ps) (lastX ps)) : (overE ps r).1 = overS ps r := by
  obtain ⟨p1, p2, p3⟩ := h
  have hends := ht.ok.ends
  unfold overE
  rw [if_pos ht.ok, if_pos (by unfold rangeErr; rw [if_neg (by omega)]), if_pos ⟨by omega, by omega⟩]

def hullR (a b : Rg) : Rg := ⟨min a.lo b.lo, max a.hi b.hi⟩
def refStep (r : Rg) (g : Rg) (p : Pt) : Rg := if r.lo < p.x ∧ p.x < r.hi then ⟨min g.lo p.lo, max g.hi p.hi⟩ else g
def refG (ps : List Pt) (r : Rg) (k : Nat) : Rg := (ps.take k).foldl (refStep r) (hullR (atS ps r.lo) (atS ps r.hi))
theorem refG_succ (ps : List Pt) (r : Rg) (k : Nat) (hk : k < ps.length) : refG ps r (k + 1) = refStep r (refG ps r k) (pt ps k) := by
  unfold refG
  rw [List.take_succ_eq_append_getElem hk, List.foldl_append]
  simp [pt, hk]

theorem gTake_hull (g r : Rg) (h : r.lo ≤ r.hi) : gTake (some g) r = ⟨min g.lo r.lo, max g.hi r.hi⟩ := by
  simp only [gTake, gAdd, Rg.mk.injEq]; omega
theorem gTake0_hull (r : Rg) (h : r.lo ≤ r.hi) : gTake none r = r := by
  obtain ⟨a, b⟩ := r
  simp only [gTake, gAdd, Rg.mk.injEq] at h ⊢; omega

theorem atS_pt {ps : List Pt} (ht : Tab2 ps) {k : Nat} (hk : k < ps.length) : atS ps (pt ps k).x = ⟨(pt ps k).lo, (pt ps k).hi⟩ := by
  have hok := ht.ok
  have h2 := ht.two
  by_cases h : k + 1 < ps.length
  · have hx := hok.lt (k + 1) k (by omega) h
    rw [atS_seg hok h (Int.le_refl _) (by omega)]
    obtain ⟨s1, s2⟩ := seg_start (pt ps k) (pt ps (k + 1)) hx
    rw [s1, s2]
  · have hx := hok.lt k (k - 1) (by omega) hk
    have hs := atS_seg hok (k := k - 1) (x := (pt ps k).x) (by omega) (by omega) (by rw [show k - 1 + 1 = k by omega]; omega)
    rw [show k - 1 + 1 = k by omega] at hs
    obtain ⟨s1, s2⟩ := seg_end (pt ps (k - 1)) (pt ps k) hx
    rw [hs, s1, s2]

theorem over_ref {ps : List Pt} (ht : Tab2 ps) {r : Rg} (h1 : firstX ps ≤ r.lo) (h2 : r.lo ≤ r.hi) (h3 : r.hi ≤ lastX ps) : ∀ k, k ≤ ps.length →
    overG ps r k = refG ps r k ∧ ((refG ps r k).lo ≤ (atS ps r.lo).lo ∧ (atS ps r.lo).hi ≤ (refG ps r k).hi) ∧ (refG ps r k).lo ≤ (atS ps r.hi).lo ∧ (atS ps r.hi).hi ≤ (refG ps r k).hi
  | 0, _ => by
    have e1 := atS_le ht.ok h1 (by omega : r.lo ≤ lastX ps)
    have e2 := atS_le ht.ok (by omega : firstX ps ≤ r.hi) h3
    unfold overG refG hullR
    simp only [List.take_zero, List.foldl_nil]
    rw [gTake_hull _ _ e2, gTake0_hull _ e1]
    simp only [true_and]
    omega
  | k + 1, hk => by
    obtain ⟨e, ⟨a1, a2⟩, b1, b2⟩ := over_ref ht h1 h2 h3 k (by omega)
    have ep := atS_pt ht (show k < ps.length by omega)
    obtain ⟨_, _, hp, _⟩ := ht.ok.all k (by omega)
    rw [overG_succ ps r k (by omega), refG_succ ps r k (by omega), e]
    generalize refG ps r k = G at *
    unfold overStep refStep
    by_cases c : r.lo < (pt ps k).x ∧ (pt ps k).x < r.hi
    · rw [if_pos c, if_pos ⟨by omega, by omega⟩, ep, gTake_hull _ _ hp]
      exact ⟨rfl, ⟨by dsimp only; omega, by dsimp only; omega⟩, by dsimp only; omega, by dsimp only; omega⟩
    · rw [if_neg c]
      refine ⟨?_, ⟨a1, a2⟩, b1, b2⟩
      by_cases d : r.lo ≤ (pt ps k).x ∧ (pt ps k).x ≤ r.hi
      · rw [if_pos d]
        have hh : (atS ps (pt ps k).x).lo ≤ (atS ps (pt ps k).x).hi := by rw [ep]; exact hp
        rw [gTake_hull _ _ hh]
        rcases (show (pt ps k).x = r.lo ∨ (pt ps k).x = r.hi by omega) with q | q
        · rw [q]; obtain ⟨g1, g2⟩ := G; simp only [Rg.mk.injEq]; dsimp only at *; omega
        · rw [q]; obtain ⟨g1, g2⟩ := G; simp only [Rg.mk.injEq]; dsimp only at *; omega
      · rw [if_neg d]

theorem overS_ref {ps : List Pt} (ht : Tab2 ps) {r : Rg} (hp : isPart r (firstX ps) (lastX ps)) : (overE ps r).1 = refG ps r ps.length := by
  rw [overE_eq ht hp]
  exact (over_ref ht hp.1 hp.2.1 hp.2.2 ps.length (Nat.le_refl _)).1

def drawV (h : Ho) (f : Fi) (m : Rg) : Rg := ⟨max ((volS h f).lo - (litS m f.den).hi) 0, (volS h f).hi - (litS m f.den).lo⟩
def drawU (h : Ho) (f : Fi) (m : Rg) : Rg × Bool := invDown h.vol.ps (drawV h f m)
/-- The fill behind drawing, and the error. -/
def drawE (h : Ho) (f : Fi) (m : Rg) : Fi × Int :=
  if fillErr h f ≠ 0 then (zeroF, fillErr h f) else if rangeErr m ≠ 0 then (zeroF, rangeErr m) else if m.lo < 0 then (zeroF, 1)
  else if ¬(1 ≤ f.state ∧ f.state ≤ 3) then (zeroF, 22)
  else if (drawV h f m).hi < 0 then (zeroF, 24)
  else if (drawU h f m).2 = false ∨ (f.state = 3 ∧ (drawU h f m).1.hi < f.ull.lo) then (zeroF, 24)
  else if f.state = 3 then (⟨f.hold, 3, ⟨max (drawU h f m).1.lo f.ull.lo, (drawU h f m).1.hi⟩, f.den⟩, 0)
  else (⟨f.hold, 3, (drawU h f m).1, f.den⟩, 0)

end Go.Proofs.YtbjdgaeikihjbaaGreat
