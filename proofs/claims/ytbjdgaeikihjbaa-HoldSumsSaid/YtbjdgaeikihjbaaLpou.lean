/-
  Plain facts: a curve lies within its table; a table's values over a range have those at each place; an inverse has each place that may be; litres and masses.
  Where the volume of a hold becomes greater by the litres that are poured, the ullage behind lies within Pour's: the plain law.
  Conditions: each theorem's own premises.
-/
import Derived.Test.YtbjdgaeikihjbaaTrut
import Derived.Test.YtbjdgaeikihjbaaPour
import Derived.Test.YtbjdgaeikihjbaaMom
import Derived.Test.YtbjdgaeikihjbaaNorm
namespace Go.Proofs.Ytbjdgaeikihjbaa
set_option linter.unusedSimpArgs false
set_option linter.unusedVariables false
open Go.RowKit

/-! ### A range's gathering -/

theorem gTake_le (g : Rg) (r : Rg) (h : r.lo ≤ r.hi) : (gTake (some g) r).lo ≤ g.lo ∧ g.hi ≤ (gTake (some g) r).hi ∧ (gTake (some g) r).lo ≤ r.lo ∧ r.hi ≤ (gTake (some g) r).hi := by
  simp only [gTake, gAdd]; omega
theorem gTake0_le (r : Rg) (h : r.lo ≤ r.hi) : (gTake none r).lo ≤ r.lo ∧ r.hi ≤ (gTake none r).hi := by
  simp only [gTake, gAdd]; omega

theorem atS_le {ps : List Pt} (hok : TabOk ps) {x : Int} (h1 : firstX ps ≤ x) (h2 : x ≤ lastX ps) : (atS ps x).lo ≤ (atS ps x).hi :=
  (atS_in hok h1 h2 (-1000000000) 1000000000 (fun k hk => by obtain ⟨_, _, _, a, b, _⟩ := hok.all k hk; exact ⟨a, b⟩)).b

/-- What was gathered has the values at the ends and at the points within. -/
theorem overG_has {ps : List Pt} (hok : TabOk ps) {r : Rg} (h1 : firstX ps ≤ r.lo) (h2 : r.lo ≤ r.hi) (h3 : r.hi ≤ lastX ps) : ∀ k, k ≤ ps.length →
    ((overG ps r k).lo ≤ (atS ps r.lo).lo ∧ (atS ps r.lo).hi ≤ (overG ps r k).hi) ∧ ((overG ps r k).lo ≤ (atS ps r.hi).lo ∧ (atS ps r.hi).hi ≤ (overG ps r k).hi) ∧
    ∀ j, j < k → r.lo ≤ (pt ps j).x → (pt ps j).x ≤ r.hi → (overG ps r k).lo ≤ (atS ps (pt ps j).x).lo ∧ (atS ps (pt ps j).x).hi ≤ (overG ps r k).hi
  | 0, _ => by
    have a := gTake0_le _ (atS_le hok h1 (by omega : r.lo ≤ lastX ps))
    have b := gTake_le (gTake none (atS ps r.lo)) _ (atS_le hok (by omega : firstX ps ≤ r.hi) h3)
    unfold overG
    simp only [List.take_zero, List.foldl_nil]
    exact ⟨⟨by omega, by omega⟩, ⟨by omega, by omega⟩, fun j hj => by omega⟩
  | k + 1, hk => by
    obtain ⟨⟨a1, a2⟩, ⟨b1, b2⟩, c⟩ := overG_has hok h1 h2 h3 k (by omega)
    rw [overG_succ ps r k (by omega)]
    unfold overStep
    split
    · rename_i hc
      have g := gTake_le (overG ps r k) _ (atS_le hok (by omega : firstX ps ≤ (pt ps k).x) (by omega))
      refine ⟨⟨by omega, by omega⟩, ⟨by omega, by omega⟩, fun j hj e1 e2 => ?_⟩
      by_cases e : j = k
      · subst e; omega
      · have := c j (by omega) e1 e2; omega
    · rename_i hc
      refine ⟨⟨a1, a2⟩, ⟨b1, b2⟩, fun j hj e1 e2 => ?_⟩
      by_cases e : j = k
      · subst e; exact absurd ⟨e1, e2⟩ hc
      · exact c j (by omega) e1 e2

theorem seg_between (a b : Pt) (h : a.x < b.x) (s x e : Int) (h1 : s ≤ x) (h2 : x ≤ e) (L U : Int) (hs : L ≤ segLo a b s ∧ segHi a b s ≤ U) (he : L ≤ segLo a b e ∧ segHi a b e ≤ U) : L ≤ segLo a b x ∧ segHi a b x ≤ U := by
  constructor
  · rcases Int.le_total a.lo b.lo with hl | hl
    · have := (segLo_step a b s x h h1).1 hl; omega
    · have := (segLo_step a b x e h h2).2 hl; omega
  · rcases Int.le_total a.hi b.hi with hl | hl
    · have := (segHi_step a b x e h h2).1 hl; omega
    · have := (segHi_step a b s x h h1).2 hl; omega

/-- The values over a range have those at each of its places. -/
theorem over_has {ps : List Pt} (ht : Tab2 ps) {r : Rg} (h1 : firstX ps ≤ r.lo) (h3 : r.hi ≤ lastX ps) {x : Int} (hx1 : r.lo ≤ x) (hx2 : x ≤ r.hi) :
    (overS ps r).lo ≤ (atS ps x).lo ∧ (atS ps x).hi ≤ (overS ps r).hi := by
  have hok := ht.ok
  obtain ⟨a, b, c⟩ := overG_has hok h1 (by omega) h3 ps.length (Nat.le_refl _)
  change (overS ps r).lo ≤ _ ∧ _ ≤ (overS ps r).hi at a
  change (overS ps r).lo ≤ _ ∧ _ ≤ (overS ps r).hi at b
  change ∀ j, j < ps.length → _ → _ → (overS ps r).lo ≤ _ ∧ _ ≤ (overS ps r).hi at c
  obtain ⟨k, k1, k2, k3⟩ := piece_of hok ht.two (show firstX ps ≤ x by omega) (show x ≤ lastX ps by omega)
  have hlt := hok.lt (k + 1) k (by omega) k1
  have key : ∀ y, (pt ps k).x ≤ y → y ≤ (pt ps (k + 1)).x → (overS ps r).lo ≤ (atS ps y).lo ∧ (atS ps y).hi ≤ (overS ps r).hi → (overS ps r).lo ≤ segLo (pt ps k) (pt ps (k + 1)) y ∧ segHi (pt ps k) (pt ps (k + 1)) y ≤ (overS ps r).hi := fun y e1 e2 h => by
    rw [atS_seg hok k1 e1 e2] at h; exact h
  rw [atS_seg hok k1 k2 k3]
  -- the nearest gathered places on the piece
  have hs : ∃ s, (pt ps k).x ≤ s ∧ s ≤ x ∧ (overS ps r).lo ≤ (atS ps s).lo ∧ (atS ps s).hi ≤ (overS ps r).hi := by
    by_cases e : (pt ps k).x < r.lo
    · exact ⟨r.lo, by omega, hx1, a⟩
    · exact ⟨(pt ps k).x, by omega, k2, c k (by omega) (by omega) (by omega)⟩
  have he : ∃ e, x ≤ e ∧ e ≤ (pt ps (k + 1)).x ∧ (overS ps r).lo ≤ (atS ps e).lo ∧ (atS ps e).hi ≤ (overS ps r).hi := by
    by_cases e : r.hi < (pt ps (k + 1)).x
    · exact ⟨r.hi, hx2, by omega, b⟩
    · exact ⟨(pt ps (k + 1)).x, k3, by omega, c (k + 1) k1 (by omega) (by omega)⟩
  obtain ⟨s, s1, s2, s3⟩ := hs
  obtain ⟨e, e1, e2, e3⟩ := he
  exact seg_between _ _ hlt s x e s2 e1 _ _ (key s s1 (by omega) s3) (key e (by omega) e2 e3)

/-- A curve within a table has its values within the table's. -/
theorem val_in {ps : List Pt} (ht : Tab2 ps) {l : List Int} (hl : CurveIn ps l) {x : Int} (h1 : firstX ps ≤ x) (h2 : x ≤ lastX ps) :
    1 ≤ valD ps x ∧ (atS ps x).lo * valD ps x ≤ valN ps l x ∧ valN ps l x ≤ (atS ps x).hi * valD ps x := by
  obtain ⟨k1, _, k3, k4⟩ := kOf_two ht h1 h2
  have hlt := ht.ok.lt (kOf ps x + 1) (kOf ps x) (by omega) k1
  rw [atS_seg ht.ok k1 k3 k4]
  unfold valD valN
  generalize kOf ps x = k at *
  have i1 := hl.at_ k (by omega)
  have i2 := hl.at_ (k + 1) k1
  refine ⟨by omega, ?_, ?_⟩
  · exact Int.le_trans (segLo_le _ _ x hlt) (lin_mono _ _ _ _ _ _ x k3 k4 i1.1 i2.1)
  · exact Int.le_trans (lin_mono _ _ _ _ _ _ x k3 k4 i1.2 i2.2) (segHi_ge _ _ x hlt)

/-! ### The inverse -/

theorem inv_has {ahead behind : Int → Bool} {a b t : Int} (hw : Ways ahead behind a b) (h1 : a ≤ t) (h2 : t ≤ b) (ha : ahead t = false) (hb : behind t = false) :
    (invS ahead behind a b).2 = true ∧ (invS ahead behind a b).1.lo ≤ t ∧ t ≤ (invS ahead behind a b).1.hi ∧ a ≤ (invS ahead behind a b).1.lo ∧ (invS ahead behind a b).1.hi ≤ b := by
  have n1 : ahead b = false := by
    cases h : ahead b with
    | false => rfl
    | true => have := hw.dn t b h1 h2 (Int.le_refl _) h; rw [ha] at this; cases this
  have n2 : behind a = false := by
    cases h : behind a with
    | false => rfl
    | true => have := hw.up a t (Int.le_refl _) h1 h2 h; rw [hb] at this; cases this
  have e : invS ahead behind a b = (⟨max (searchS (fun x => !ahead x) a b - 1) a, min (searchS behind a b) b⟩, true) := if_neg (by simp [n1, n2])
  obtain ⟨s1, s2, s3, s4⟩ := searchS_spec (q := fun x => !ahead x) (a := a) (b := b) (by omega) (fun x y h1 h2 h3 hx => by
    have := hw.dn x y h1 h2 h3
    cases hy : ahead y
    · rfl
    · simp only [this hy] at hx; cases hx)
  obtain ⟨r1, r2, r3, r4⟩ := searchS_spec (q := behind) (a := a) (b := b) (by omega) hw.up
  rw [e]
  dsimp only
  have l1 : searchS (fun x => !ahead x) a b ≤ t := by
    apply Classical.byContradiction
    intro hc
    have := s3 t h1 (by omega)
    simp [ha] at this
  have l2 : t < searchS behind a b := by
    apply Classical.byContradiction
    intro hc
    have := r4 t (by omega) h2
    rw [hb] at this
    cases this
  exact ⟨rfl, by omega, by omega, by omega, by omega⟩

theorem invDown_has {ps : List Pt} (ht : Tab2 ps) (hm : mono ps (-1)) {v : Rg} {t : Int} (h1 : firstX ps ≤ t) (h2 : t ≤ lastX ps) (ha : (atS ps t).lo ≤ v.hi) (hb : v.lo ≤ (atS ps t).hi) :
    (invDown ps v).2 = true ∧ (invDown ps v).1.lo ≤ t ∧ t ≤ (invDown ps v).1.hi ∧ firstX ps ≤ (invDown ps v).1.lo ∧ (invDown ps v).1.hi ≤ lastX ps := by
  refine inv_has (ways_down ht hm v) h1 h2 ?_ ?_
  · unfold moreB; rw [atE_in ht.ok h1 h2]; exact decide_eq_false (by omega)
  · unfold lessB; rw [atE_in ht.ok h1 h2]; exact decide_eq_false (by omega)
theorem invUp_has {ps : List Pt} (ht : Tab2 ps) (hm : mono ps 1) {v : Rg} {t : Int} (h1 : firstX ps ≤ t) (h2 : t ≤ lastX ps) (ha : (atS ps t).lo ≤ v.hi) (hb : v.lo ≤ (atS ps t).hi) :
    (invUp ps v).2 = true ∧ (invUp ps v).1.lo ≤ t ∧ t ≤ (invUp ps v).1.hi ∧ firstX ps ≤ (invUp ps v).1.lo ∧ (invUp ps v).1.hi ≤ lastX ps := by
  refine inv_has (ways_up ht hm v) h1 h2 ?_ ?_
  · unfold lessB; rw [atE_in ht.ok h1 h2]; exact decide_eq_false (by omega)
  · unfold moreB; rw [atE_in ht.ok h1 h2]; exact decide_eq_false (by omega)

/-! ### Masses and litres -/

/-- The litres of a mass around n / d (kilograms), n = litres' numerator times a density of the range, d = 1000 times its denominator: the litres' range has them. -/
theorem lit_has {rho : Rg} (hr : isDen rho) {q N D : Int} (hq : rho.lo ≤ q ∧ q ≤ rho.hi) (hN : 0 ≤ N) (hD : 1 ≤ D) {m : Rg} (h1 : m.lo * (1000 * D) ≤ N * q) (h2 : N * q ≤ m.hi * (1000 * D)) (h0 : 0 ≤ m.lo) (h3 : 0 ≤ m.hi) :
    (litS m rho).lo * D ≤ N ∧ N ≤ (litS m rho).hi * D := by
  obtain ⟨b1, b2, b3⟩ := hr
  unfold litS litLo litHi
  rw [if_neg (by omega), if_neg (by omega)]
  dsimp only
  constructor
  · -- 1000 m.lo / rho.hi * D ≤ N
    have e1 := Int.ediv_mul_le (1000 * m.lo) (show rho.hi ≠ 0 by omega)
    have e2 : 1000 * m.lo / rho.hi * rho.hi * D ≤ 1000 * m.lo * D := Int.mul_le_mul_of_nonneg_right e1 (by omega)
    have e3 : N * q ≤ N * rho.hi := Int.mul_le_mul_of_nonneg_left hq.2 hN
    have e4 : 1000 * m.lo * D = m.lo * (1000 * D) := by rw [Int.mul_comm 1000 m.lo, Int.mul_assoc]
    have e5 : 1000 * m.lo / rho.hi * rho.hi * D = 1000 * m.lo / rho.hi * D * rho.hi := by rw [Int.mul_assoc, Int.mul_comm rho.hi D, ← Int.mul_assoc]
    refine le_of_mul (d := rho.hi) (by omega) ?_
    omega
  · have e1 := Int.ediv_mul_le (-(1000 * m.hi)) (show rho.lo ≠ 0 by omega)
    have e2 : -(1000 * m.hi) / rho.lo * rho.lo * D ≤ -(1000 * m.hi) * D := Int.mul_le_mul_of_nonneg_right e1 (by omega)
    have e3 : N * rho.lo ≤ N * q := Int.mul_le_mul_of_nonneg_left hq.1 hN
    have e4 : -(1000 * m.hi) * D = -(m.hi * (1000 * D)) := by rw [Int.neg_mul, Int.mul_comm 1000 m.hi, Int.mul_assoc]
    have e5 : -(1000 * m.hi) / rho.lo * rho.lo * D = -(1000 * m.hi) / rho.lo * D * rho.lo := by rw [Int.mul_assoc, Int.mul_comm rho.lo D, ← Int.mul_assoc]
    refine le_of_mul (d := rho.lo) (by omega) ?_
    rw [Int.neg_mul, Int.neg_mul]
    omega

theorem aro_has (n d : Int) (hd : 1 ≤ d) : (aroS n d).lo * d ≤ n ∧ n ≤ (aroS n d).hi * d ∧ (aroS n d).lo ≤ (aroS n d).hi := by
  have e1 := Int.ediv_mul_le n (show d ≠ 0 by omega)
  have e2 := Int.lt_ediv_add_one_mul_self n (show 0 < d by omega)
  unfold aroS
  split
  · dsimp only; exact ⟨e1, Int.le_of_lt e2, by omega⟩
  · dsimp only; exact ⟨e1, by omega, by omega⟩

end Go.Proofs.Ytbjdgaeikihjbaa

namespace Go.Proofs.Ytbjdgaeikihjbaa
set_option linter.unusedSimpArgs false
set_option linter.unusedVariables false
open Go.RowKit

/-- The numbers of a curve within a table that numbers made are small. -/
theorem val_bd {xl : List Int} {ps : List Pt} (hm : Made xl ps) (hx : XsOk xl) (ht : Tab2 ps) {l : List Int} (hl : CurveIn ps l) {x : Int} (h1 : firstX ps ≤ x) (h2 : x ≤ lastX ps) :
    0 ≤ valN ps l x ∧ valN ps l x ≤ 800000 ∧ 1 ≤ valD ps x ∧ valD ps x ≤ 40 := by
  obtain ⟨k1, _, k3, k4⟩ := kOf_two ht h1 h2
  unfold valD valN
  generalize kOf ps x = k at *
  have i1 := hl.at_ k (by omega)
  have i2 := hl.at_ (k + 1) k1
  obtain ⟨a1, a2, a3, a4⟩ := hm.at_ k (by omega)
  obtain ⟨b1, b2, b3, b4⟩ := hm.at_ (k + 1) k1
  have hup := hx.up k (by have := hm.len; omega)
  rw [← a1, ← b1] at hup
  have m1 := Int.mul_nonneg (show 0 ≤ iv l k by omega) (show 0 ≤ (pt ps (k + 1)).x - x by omega)
  have m2 := Int.mul_nonneg (show 0 ≤ iv l (k + 1) by omega) (show 0 ≤ x - (pt ps k).x by omega)
  have m3 := Int.mul_le_mul_of_nonneg_right (show iv l k ≤ 20000 by omega) (show 0 ≤ (pt ps (k + 1)).x - x by omega)
  have m4 := Int.mul_le_mul_of_nonneg_right (show iv l (k + 1) ≤ 20000 by omega) (show 0 ≤ x - (pt ps k).x by omega)
  omega

theorem ends_in {ps : List Pt} {u r0 r1 : Int} (h : firstX ps ≤ r0 ∧ r1 ≤ lastX ps) (h1 : r0 ≤ u) (h2 : u ≤ r1) : firstX ps ≤ u ∧ u ≤ lastX ps := by omega

/-- What Pour's answer is, in the law's case. -/
structure PourOk (f : Fi) (rho : Rg) (to : Int) (g : Fi × Int) : Prop where
  e : g.2 = 0
  st : g.1.state = 3
  lo : g.1.ull.lo ≤ to
  hi : to ≤ g.1.ull.hi
  d1 : g.1.den.lo ≤ f.den.lo ∧ f.den.hi ≤ g.1.den.hi
  d2 : g.1.den.lo ≤ rho.lo ∧ rho.hi ≤ g.1.den.hi

theorem vol_three {h : Ho} (h0 : HoldOk h) {f : Fi} (h1 : FillIn h f) (h3 : f.state = 3) : volS h f = overS h.vol.ps f.ull := by
  obtain ⟨_, ⟨e, _⟩ | ⟨e, _⟩ | ⟨_, hp, _⟩⟩ := h1
  · omega
  · omega
  · unfold volS fillS
    rw [if_neg (by omega), if_pos (by omega)]
    unfold overE
    have hends := h0.tabs.1.ok.ends
    obtain ⟨p1, p2, p3⟩ := hp
    rw [if_pos h0.tabs.1.ok, if_pos (by unfold rangeErr; rw [if_neg (by omega)]), if_pos ⟨by omega, by omega⟩]

theorem poured_plain {r : Rw} {h : Ho} (hm : HoldMade r h) {f : Fi} (h1 : FillIn h f) (h3 : f.state = 3) {u to : Int} (hu : f.ull.lo ≤ u ∧ u ≤ f.ull.hi) (hto : firstX h.vol.ps ≤ to ∧ to ≤ u) {l : List Int} (hl : CurveIn h.vol.ps l)
    {rho : Rg} (hr : isDen rho) {q : Int} (hq : rho.lo ≤ q ∧ q ≤ rho.hi) {more : Int} (hmore : more = valN h.vol.ps l to * valD h.vol.ps u - valN h.vol.ps l u * valD h.vol.ps to) (h0 : 0 ≤ more) :
    (0 ≤ more * q ∧ more * q ≤ 1000000000000000000 ∧ 1 ≤ 1000 * valD h.vol.ps u * valD h.vol.ps to ∧ 1000 * valD h.vol.ps u * valD h.vol.ps to ≤ 1000000000000000000) ∧
      PourOk f rho to (pourE h f (aroS (more * q) (1000 * valD h.vol.ps u * valD h.vol.ps to)) rho) := by
  have hok := hm.ok
  have ht := hok.tabs.1
  have hpart : isPart f.ull (firstX h.vol.ps) (lastX h.vol.ps) := by
    obtain ⟨_, ⟨e, _⟩ | ⟨e, _⟩ | ⟨_, hp, _⟩⟩ := h1
    · omega
    · omega
    · exact hp
  obtain ⟨p1, p2, p3⟩ := hpart
  have v3 := vol_three hok h1 h3
  obtain ⟨a1, a2, a3, a4⟩ := val_bd hm.vol hm.xs.1 ht hl (x := u) (by omega) (by omega)
  obtain ⟨b1, b2, b3, b4⟩ := val_bd hm.vol hm.xs.1 ht hl (x := to) (by omega) (by omega)
  obtain ⟨_, c2, c3⟩ := val_in ht hl (x := u) (by omega) (by omega)
  obtain ⟨_, d2, d3⟩ := val_in ht hl (x := to) (by omega) (by omega)
  obtain ⟨o1, o2⟩ := over_has ht p1 p3 hu.1 hu.2
  generalize valN h.vol.ps l u = A at *
  generalize valD h.vol.ps u = B at *
  generalize valN h.vol.ps l to = I at *
  generalize valD h.vol.ps to = J at *
  obtain ⟨r1, r2, r3⟩ := hr
  have k1 : I * B ≤ 32000000 := by
    have := Int.mul_le_mul (show I ≤ 800000 by omega) (show B ≤ 40 by omega) (by omega) (by omega); omega
  have k2 : 0 ≤ A * J := Int.mul_nonneg a1 (by omega)
  have k3 : 1 ≤ B * J := by
    have := Int.mul_le_mul (show (1 : Int) ≤ B by omega) (show (1 : Int) ≤ J by omega) (by omega) (by omega); omega
  have k4 : B * J ≤ 1600 := by
    have := Int.mul_le_mul (show B ≤ 40 by omega) (show J ≤ 40 by omega) (by omega) (by omega); omega
  have k5 : 0 ≤ more * q := Int.mul_nonneg h0 (by omega)
  have k6 : more * q ≤ 64000000000 := by
    have := Int.mul_le_mul (show more ≤ 32000000 by omega) (show q ≤ 2000 by omega) (by omega) (by omega); omega
  have k7 : 1000 * B * J = 1000 * (B * J) := Int.mul_assoc _ _ _
  refine ⟨by omega, ?_⟩
  obtain ⟨m1, m2, m3⟩ := aro_has (more * q) (1000 * (B * J)) (by omega)
  rw [k7]
  have m4 : 0 ≤ (aroS (more * q) (1000 * (B * J))).lo := Int.ediv_nonneg k5 (by omega)
  have m5 : (aroS (more * q) (1000 * (B * J))).hi ≤ 64000000001 := by
    have := Int.ediv_le_self (1000 * (B * J)) k5
    unfold aroS
    split <;> (dsimp only; omega)
  generalize aroS (more * q) (1000 * (B * J)) = m at *
  obtain ⟨l1, l2⟩ := lit_has ⟨r1, r2, r3⟩ hq h0 k3 m1 m2 m4 (by omega)
  have hE := fillErr_ok hok h1
  have hM : massErr m rho = 0 := by
    unfold massErr
    rw [if_pos (by unfold rangeErr; rw [if_neg (by omega)]), if_pos ⟨r1, r2, r3⟩]
  -- what is asked of the inverse has the volume behind
  have hV : pourV h f m rho = ⟨(overS h.vol.ps f.ull).lo + (litS m rho).lo, (overS h.vol.ps f.ull).hi + (litS m rho).hi⟩ := by
    unfold pourV plusS; rw [v3]
  have w1 : (pourV h f m rho).lo ≤ (atS h.vol.ps to).hi := by
    rw [hV]
    dsimp only
    refine le_of_mul (d := J) (by omega) (le_of_mul (d := B) (by omega) ?_)
    have e1 : ((overS h.vol.ps f.ull).lo + (litS m rho).lo) * J * B = (overS h.vol.ps f.ull).lo * B * J + (litS m rho).lo * (B * J) := by
      rw [Int.add_mul, Int.add_mul, Int.mul_assoc, Int.mul_assoc, Int.mul_comm J B, ← Int.mul_assoc, ← Int.mul_assoc]
    have e2 : (overS h.vol.ps f.ull).lo * B ≤ A := Int.le_trans (Int.mul_le_mul_of_nonneg_right o1 (by omega)) c2
    have e3 := Int.mul_le_mul_of_nonneg_right e2 (show 0 ≤ J by omega)
    have e4 := Int.mul_le_mul_of_nonneg_right d3 (show 0 ≤ B by omega)
    rw [e1]
    omega
  have w2 : (atS h.vol.ps to).lo ≤ (pourV h f m rho).hi := by
    rw [hV]
    dsimp only
    refine le_of_mul (d := J) (by omega) (le_of_mul (d := B) (by omega) ?_)
    have e1 : ((overS h.vol.ps f.ull).hi + (litS m rho).hi) * J * B = (overS h.vol.ps f.ull).hi * B * J + (litS m rho).hi * (B * J) := by
      rw [Int.add_mul, Int.add_mul, Int.mul_assoc, Int.mul_assoc, Int.mul_comm J B, ← Int.mul_assoc, ← Int.mul_assoc]
    have e2 : A ≤ (overS h.vol.ps f.ull).hi * B := Int.le_trans c3 (Int.mul_le_mul_of_nonneg_right o2 (by omega))
    have e3 := Int.mul_le_mul_of_nonneg_right e2 (show 0 ≤ J by omega)
    have e4 := Int.mul_le_mul_of_nonneg_right d2 (show 0 ≤ B by omega)
    rw [e1]
    omega
  obtain ⟨i1, i2, i3, _, _⟩ := invDown_has ht hok.mv (by omega : firstX h.vol.ps ≤ to) (by omega) w2 w1
  change (pourU h f m rho).2 = true at i1
  change (pourU h f m rho).1.lo ≤ to at i2
  change to ≤ (pourU h f m rho).1.hi at i3
  have hP : pourE h f m rho = (⟨f.hold, 3, ⟨(pourU h f m rho).1.lo, min (pourU h f m rho).1.hi f.ull.hi⟩, hullS rho f.den⟩, 0) := by
    unfold pourE
    rw [if_neg (by omega), if_neg (by omega), if_neg (by omega), if_neg (by omega), if_neg (by omega), if_neg (by rintro (e | ⟨_, e⟩); rw [i1] at e; cases e; omega), if_pos h3]
  rw [hP]
  refine ⟨rfl, rfl, i2, ?_, ?_, ?_⟩
  · show to ≤ min (pourU h f m rho).1.hi f.ull.hi; omega
  · simp only [hullS]; omega
  · simp only [hullS]; omega

end Go.Proofs.Ytbjdgaeikihjbaa
