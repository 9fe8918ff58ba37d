/-
  Of a narrower fill narrower ranges are told, also behind a narrower mass is poured or drawn: the plain law.
  Conditions: each theorem's own premises.
-/
import Derived.Test.YtbjdgaeikihjbaaLdra
import Derived.Test.YtbjdgaeikihjbaaLbou
namespace Go.Proofs.Ytbjdgaeikihjbaa
set_option linter.unusedSimpArgs false
set_option linter.unusedVariables false
open Go.RowKit

/-- A range lies within another one. -/
def InS (a b : Rg) : Prop := b.lo ≤ a.lo ∧ a.hi ≤ b.hi

theorem nTake_lo (g r : Rg) (M : Int) (h1 : M ≤ g.lo) (h2 : M ≤ r.lo) (h3 : r.lo ≤ r.hi) : M ≤ (gTake (some g) r).lo := by
  simp only [gTake, gAdd]; omega
theorem nTake0_lo (r : Rg) (M : Int) (h2 : M ≤ r.lo) (h3 : r.lo ≤ r.hi) : M ≤ (gTake none r).lo := by
  simp only [gTake, gAdd]; omega
theorem nTake_hi (g r : Rg) (M : Int) (h1 : g.hi ≤ M) (h2 : r.hi ≤ M) (h3 : r.lo ≤ r.hi) : (gTake (some g) r).hi ≤ M := by
  simp only [gTake, gAdd]; omega
theorem nTake0_hi (r : Rg) (M : Int) (h2 : r.hi ≤ M) (h3 : r.lo ≤ r.hi) : (gTake none r).hi ≤ M := by
  simp only [gTake, gAdd]; omega

theorem overG_cut {ps : List Pt} (hok : TabOk ps) {r : Rg} (h1 : firstX ps ≤ r.lo) (h2 : r.lo ≤ r.hi) (h3 : r.hi ≤ lastX ps) (L M : Int) (a : L ≤ (atS ps r.lo).lo ∧ (atS ps r.lo).hi ≤ M) (b : L ≤ (atS ps r.hi).lo ∧ (atS ps r.hi).hi ≤ M)
    (c : ∀ j, j < ps.length → r.lo ≤ (pt ps j).x → (pt ps j).x ≤ r.hi → L ≤ (atS ps (pt ps j).x).lo ∧ (atS ps (pt ps j).x).hi ≤ M) : ∀ k, k ≤ ps.length → L ≤ (overG ps r k).lo ∧ (overG ps r k).hi ≤ M
  | 0, _ => by
    have e1 := atS_le hok h1 (by omega : r.lo ≤ lastX ps)
    have e2 := atS_le hok (by omega : firstX ps ≤ r.hi) h3
    unfold overG
    simp only [List.take_zero, List.foldl_nil]
    exact ⟨nTake_lo _ _ L (nTake0_lo _ L a.1 e1) b.1 e2, nTake_hi _ _ M (nTake0_hi _ M a.2 e1) b.2 e2⟩
  | k + 1, hk => by
    have ih := overG_cut hok h1 h2 h3 L M a b c k (by omega)
    rw [overG_succ ps r k (by omega)]
    unfold overStep
    split
    · rename_i hc
      have e := c k (by omega) hc.1 hc.2
      have e3 := atS_le hok (x := (pt ps k).x) (by omega) (by omega)
      exact ⟨nTake_lo _ _ L ih.1 e.1 e3, nTake_hi _ _ M ih.2 e.2 e3⟩
    · exact ih

theorem over_mono {ps : List Pt} (ht : Tab2 ps) {r s : Rg} (hr : isPart r (firstX ps) (lastX ps)) (hs : isPart s (firstX ps) (lastX ps)) (h : InS s r) : InS (overE ps s).1 (overE ps r).1 := by
  rw [overE_eq ht hr, overE_eq ht hs]
  obtain ⟨p1, p2, p3⟩ := hr
  obtain ⟨q1, q2, q3⟩ := hs
  obtain ⟨i1, i2⟩ := h
  have key : ∀ x, s.lo ≤ x → x ≤ s.hi → (overS ps r).lo ≤ (atS ps x).lo ∧ (atS ps x).hi ≤ (overS ps r).hi := fun x a b => over_has ht p1 p3 (by omega) (by omega)
  exact overG_cut ht.ok q1 q2 q3 _ _ (key _ (Int.le_refl _) q2) (key _ q2 (Int.le_refl _)) (fun j _ a b => key _ a b) _ (Nat.le_refl _)

theorem weigh_mono {v v' d d' : Rg} (hv : InS v' v) (hd : InS d' d) (h1 : 0 ≤ v.lo) (h2 : v'.lo ≤ v'.hi) (h3 : 0 ≤ d.lo) (h4 : d'.lo ≤ d'.hi) : InS (weighS v' d') (weighS v d) := by
  obtain ⟨a1, a2⟩ := hv
  obtain ⟨b1, b2⟩ := hd
  have m1 : v.lo * d.lo ≤ v'.lo * d'.lo := Int.mul_le_mul a1 b1 h3 (by omega)
  have m2 : v'.hi * d'.hi ≤ v.hi * d.hi := Int.mul_le_mul a2 b2 (by omega) (by omega)
  unfold weighS InS
  dsimp only
  generalize v.lo * d.lo = p1 at *
  generalize v'.lo * d'.lo = p2 at *
  generalize v.hi * d.hi = p3 at *
  generalize v'.hi * d'.hi = p4 at *
  omega

theorem ndiv_anti {a b c : Int} (ha : 0 ≤ a) (hb : 1 ≤ b) (hc : b ≤ c) : a / c ≤ a / b := by
  have h1 : a / c * b ≤ a / c * c := Int.mul_le_mul_of_nonneg_left hc (Int.ediv_nonneg ha (by omega))
  have h2 := Int.ediv_mul_le a (show c ≠ 0 by omega)
  exact (Int.le_ediv_iff_mul_le (by omega)).2 (by omega)
theorem ndiv_mono_neg {a b c : Int} (ha : a ≤ 0) (hb : 1 ≤ b) (hc : b ≤ c) : a / b ≤ a / c := by
  have h0 : a / b ≤ 0 := by
    have := Int.ediv_mul_le a (show b ≠ 0 by omega)
    apply Classical.byContradiction
    intro h
    have : 1 * b ≤ a / b * b := Int.mul_le_mul_of_nonneg_right (by omega) (by omega)
    omega
  have h1 : a / b * c ≤ a / b * b := by
    have : (-(a / b)) * b ≤ (-(a / b)) * c := Int.mul_le_mul_of_nonneg_left hc (by omega)
    rw [Int.neg_mul, Int.neg_mul] at this
    omega
  have h2 := Int.ediv_mul_le a (show b ≠ 0 by omega)
  exact (Int.le_ediv_iff_mul_le (by omega)).2 (by omega)

theorem lit_mono {m m' d d' : Rg} (hm : InS m' m) (hd : InS d' d) (h0 : 0 ≤ m.lo) (h1 : m'.lo ≤ m'.hi) (h2 : isDen d) (h3 : isDen d') : InS (litS m' d') (litS m d) := by
  obtain ⟨a1, a2⟩ := hm
  obtain ⟨b1, b2⟩ := hd
  obtain ⟨c1, c2, c3⟩ := h2
  obtain ⟨e1, e2, e3⟩ := h3
  unfold litS litLo litHi InS
  rw [if_neg (by omega), if_neg (by omega), if_neg (by omega), if_neg (by omega)]
  dsimp only
  constructor
  · exact Int.le_trans (Int.ediv_le_ediv (by omega) (by omega : 1000 * m.lo ≤ 1000 * m'.lo)) (ndiv_anti (by omega) (by omega) b2)
  · have := Int.le_trans (Int.ediv_le_ediv (by omega) (by omega : -(1000 * m.hi) ≤ -(1000 * m'.hi)) : -(1000 * m.hi) / d.lo ≤ -(1000 * m'.hi) / d.lo) (ndiv_mono_neg (a := -(1000 * m'.hi)) (b := d.lo) (c := d'.lo) (by omega) (by omega) b1)
    omega

theorem inv_mono {ahead behind ahead' behind' : Int → Bool} {a b : Int} (hw : Ways ahead behind a b) (hw' : Ways ahead' behind' a b) (hab : a ≤ b) (h1 : ∀ x, a ≤ x → x ≤ b → ahead x = true → ahead' x = true) (h2 : ∀ x, a ≤ x → x ≤ b → behind x = true → behind' x = true)
    (h : (invS ahead' behind' a b).2 = true) : (invS ahead behind a b).2 = true ∧ InS (invS ahead' behind' a b).1 (invS ahead behind a b).1 := by
  have n1 : ahead' b = false := by
    cases hh : ahead' b with
    | false => rfl
    | true => unfold invS at h; rw [if_pos (.inl hh)] at h; cases h
  have n2 : behind' a = false := by
    cases hh : behind' a with
    | false => rfl
    | true => unfold invS at h; rw [if_pos (.inr hh)] at h; cases h
  have n3 : ahead b = false := by
    cases hh : ahead b with
    | false => rfl
    | true => rw [h1 b hab (Int.le_refl _) hh] at n1; cases n1
  have n4 : behind a = false := by
    cases hh : behind a with
    | false => rfl
    | true => rw [h2 a (Int.le_refl _) hab hh] at n2; cases n2
  have e : invS ahead behind a b = (⟨max (searchS (fun x => !ahead x) a b - 1) a, min (searchS behind a b) b⟩, true) := if_neg (by simp [n3, n4])
  have e' : invS ahead' behind' a b = (⟨max (searchS (fun x => !ahead' x) a b - 1) a, min (searchS behind' a b) b⟩, true) := if_neg (by simp [n1, n2])
  have dn : ∀ (ah be : Int → Bool), Ways ah be a b → ∀ x y, a ≤ x → x ≤ y → y ≤ b → (fun x => !ah x) x = true → (fun x => !ah x) y = true := fun ah be hw x y h1 h2 h3 hx => by
    have := hw.dn x y h1 h2 h3
    dsimp only at hx ⊢
    cases hy : ah y
    · rfl
    · simp only [this hy] at hx; cases hx
  obtain ⟨s1, s2, s3, s4⟩ := searchS_spec (q := fun x => !ahead x) (a := a) (b := b) (by omega) (dn _ _ hw)
  obtain ⟨t1, t2, t3, t4⟩ := searchS_spec (q := fun x => !ahead' x) (a := a) (b := b) (by omega) (dn _ _ hw')
  obtain ⟨r1, r2, r3, r4⟩ := searchS_spec (q := behind) (a := a) (b := b) (by omega) hw.up
  obtain ⟨u1, u2, u3, u4⟩ := searchS_spec (q := behind') (a := a) (b := b) (by omega) hw'.up
  rw [e, e']
  refine ⟨rfl, ?_⟩
  generalize searchS (fun x => !ahead x) a b = S at *
  generalize searchS (fun x => !ahead' x) a b = S' at *
  generalize searchS behind a b = R at *
  generalize searchS behind' a b = R' at *
  have k1 : S ≤ S' := by
    apply Classical.byContradiction
    intro hc
    have g1 := s3 S' t1 (by omega)
    have g2 := t4 S' (Int.le_refl _) (by omega)
    have g3 := h1 S' t1 (by omega) (by cases hh : ahead S' with | true => rfl | false => rw [hh] at g1; cases g1)
    rw [g3] at g2; cases g2
  have k2 : R' ≤ R := by
    apply Classical.byContradiction
    intro hc
    have g1 := r4 R (Int.le_refl _) (by omega)
    have g2 := u3 R r1 (by omega)
    rw [h2 R r1 (by omega) g1] at g2; cases g2
  unfold InS
  dsimp only
  omega

theorem invDown_mono {ps : List Pt} (ht : Tab2 ps) (hm : mono ps (-1)) {v v' : Rg} (h : InS v' v) (h' : (invDown ps v').2 = true) : (invDown ps v).2 = true ∧ InS (invDown ps v').1 (invDown ps v).1 := by
  obtain ⟨i1, i2⟩ := h
  refine inv_mono (ways_down ht hm v) (ways_down ht hm v') ht.ok.ends.2.1 (fun x _ _ hx => ?_) (fun x _ _ hx => ?_) h'
  · unfold moreB at hx ⊢
    rw [decide_eq_true_eq] at hx ⊢
    omega
  · unfold lessB at hx ⊢
    rw [decide_eq_true_eq] at hx ⊢
    omega

/-- A fill that is narrower than another one. -/
structure Nar (h : Ho) (f g : Fi) : Prop where
  hold : HoldOk h
  hf : FillIn h f
  hg : FillIn h g
  st : g.state = f.state
  u : InS g.ull f.ull
  d : InS g.den f.den

theorem Nar.fil {h : Ho} {f g : Fi} (n : Nar h f g) {ps : List Pt} (ht : Tab2 ps) (hs : firstX ps = firstX h.vol.ps ∧ lastX ps = lastX h.vol.ps) (filled : Rg) : InS (fillS g filled ps) (fillS f filled ps) := by
  have e := n.st
  unfold fillS
  by_cases c : f.state = 1 ∨ f.state = 2
  · rw [if_pos (by omega), if_pos c]; exact ⟨Int.le_refl _, Int.le_refl _⟩
  · rw [if_neg (by omega), if_neg c]
    by_cases c2 : 3 ≤ f.state ∧ f.state ≤ 5
    · rw [if_pos (by omega), if_pos c2]
      have p1 := (fill_free n.hf (by omega)).2.1
      have p2 := (fill_free n.hg (by omega)).2.1
      rw [← hs.1, ← hs.2] at p1 p2
      exact over_mono ht p1 p2 n.u
    · rw [if_neg (by omega), if_neg c2]; exact ⟨Int.le_refl _, Int.le_refl _⟩

theorem Nar.vol {h : Ho} {f g : Fi} (n : Nar h f g) : InS (volS h g) (volS h f) := n.fil n.hold.tabs.1 ⟨rfl, rfl⟩ _
theorem Nar.mom {h : Ho} {f g : Fi} (n : Nar h f g) : InS (momS h g) (momS h f) := by
  have e := n.st
  obtain ⟨_, ⟨t2, s2⟩, _⟩ := n.hold.tabs
  unfold momS
  by_cases c1 : f.state = 1
  · rw [if_pos (by omega), if_pos c1]; exact ⟨Int.le_refl _, Int.le_refl _⟩
  · rw [if_neg (by omega), if_neg c1]
    by_cases c2 : f.state = 2
    · rw [if_pos (by omega), if_pos c2]; exact ⟨Int.le_refl _, Int.le_refl _⟩
    · rw [if_neg (by omega), if_neg c2]
      by_cases c3 : f.state = 3
      · rw [if_pos (by omega), if_pos c3]
        have p1 := (fill_free n.hf (by omega)).2.1
        have p2 := (fill_free n.hg (by omega)).2.1
        rw [← s2.1, ← s2.2] at p1 p2
        exact over_mono t2 p1 p2 n.u
      · rw [if_neg (by omega), if_neg c3]; exact ⟨Int.le_refl _, Int.le_refl _⟩

/-- What is told of the two. -/
structure NarTold (h : Ho) (f g : Fi) : Prop where
  e1 : fillErr h f = 0
  e2 : fillErr h g = 0
  mass : InS (wtE h g).mass (wtE h f).mass
  high : InS (wtE h g).high (wtE h f).high
  heel : InS (heelE h g) (heelE h f)

theorem Nar.told {h : Ho} {f g : Fi} (n : Nar h f g) : NarTold h f g := by
  have e1 := fillErr_ok n.hold n.hf
  have e2 := fillErr_ok n.hold n.hg
  have d1 := den_in n.hf
  have d2 := den_in n.hg
  have v1 := volS_in n.hold f
  have v2 := volS_in n.hold g
  have m1 := momS_in n.hold f
  have m2 := momS_in n.hold g
  obtain ⟨_, _, ⟨t3, s3⟩⟩ := n.hold.tabs
  refine ⟨e1, e2, ?_, ?_, ?_⟩
  · unfold wtE; rw [if_pos e1, if_pos e2]; exact weigh_mono n.vol n.d v1.a v2.b d1.a d2.b
  · unfold wtE; rw [if_pos e1, if_pos e2]; exact n.fil t3 s3 _
  · unfold heelE; rw [if_pos e1, if_pos e2]; exact weigh_mono n.mom n.d m1.a m2.b d1.a d2.b

theorem rangeErr_small {m : Rg} (h1 : 0 ≤ m.lo) (h2 : m.lo ≤ m.hi) (h3 : m.hi ≤ 1000) : rangeErr m = 0 := by
  unfold rangeErr; rw [if_neg (by omega)]

theorem hull_in {a b c d : Rg} (h1 : InS a c) (h2 : InS b d) : InS (hullS a b) (hullS c d) := by
  obtain ⟨a1, a2⟩ := h1
  obtain ⟨b1, b2⟩ := h2
  unfold InS hullS
  dsimp only
  omega

/-- What pouring comes to where nothing is wrong with the fill and the mass. -/
def pourR (f : Fi) (U : Rg × Bool) (d : Rg) : Fi × Int :=
  if f.state = 4 ∨ f.state = 5 then (zeroF, 22) else if f.state = 1 ∨ f.state = 2 then (zeroF, 24)
  else if U.2 = false ∨ (f.state = 3 ∧ f.ull.hi < U.1.lo) then (zeroF, 24)
  else if f.state = 3 then (⟨f.hold, 3, ⟨U.1.lo, min U.1.hi f.ull.hi⟩, hullS d f.den⟩, 0)
  else (⟨f.hold, 3, U.1, d⟩, 0)
/-- What drawing comes to where nothing is wrong with the fill and the mass. -/
def drawR (f : Fi) (v : Rg) (U : Rg × Bool) : Fi × Int :=
  if ¬(1 ≤ f.state ∧ f.state ≤ 3) then (zeroF, 22)
  else if v.hi < 0 then (zeroF, 24)
  else if U.2 = false ∨ (f.state = 3 ∧ U.1.hi < f.ull.lo) then (zeroF, 24)
  else if f.state = 3 then (⟨f.hold, 3, ⟨max U.1.lo f.ull.lo, U.1.hi⟩, f.den⟩, 0)
  else (⟨f.hold, 3, U.1, f.den⟩, 0)

theorem Nar.pour {h : Ho} {f g : Fi} (n : Nar h f g) {m m' d d' : Rg} (hm : InS m' m) (hm0 : 0 ≤ m.lo) (hm1 : m.lo ≤ m.hi) (hm2 : m.hi ≤ 1000) (hm3 : m'.lo ≤ m'.hi) (hd : isDen d) (hd' : isDen d') (hdd : InS d' d) (h2 : (pourE h g m' d').2 = 0) :
    (pourE h f m d).2 = 0 ∧ InS (pourE h g m' d').1.ull (pourE h f m d).1.ull ∧ InS (pourE h g m' d').1.den (pourE h f m d).1.den := by
  have e := n.st
  have e1 := fillErr_ok n.hold n.hf
  have e2 := fillErr_ok n.hold n.hg
  obtain ⟨i1, i2⟩ := hm
  have r1 := rangeErr_small hm0 hm1 hm2
  have r2 := rangeErr_small (m := m') (by omega) hm3 (by omega)
  have k1 : massErr m d = 0 := by unfold massErr; rw [if_pos r1, if_pos hd]
  have k2 : massErr m' d' = 0 := by unfold massErr; rw [if_pos r2, if_pos hd']
  have hl := lit_mono ⟨i1, i2⟩ hdd hm0 hm3 hd hd'
  have hv := n.vol
  have hp : InS (pourV h g m' d') (pourV h f m d) := by
    obtain ⟨a1, a2⟩ := hl
    obtain ⟨b1, b2⟩ := hv
    unfold pourV plusS InS
    dsimp only
    omega
  have hi := fun h' => invDown_mono n.hold.tabs.1 n.hold.mv hp h'
  change (pourU h g m' d').2 = true → (pourU h f m d).2 = true ∧ InS (pourU h g m' d').1 (pourU h f m d).1 at hi
  obtain ⟨u1, u2⟩ := n.u
  have pf : pourE h f m d = pourR f (pourU h f m d) d := by unfold pourE pourR; rw [if_neg (by omega), if_neg (by omega), if_neg (by omega)]
  have pg : pourE h g m' d' = pourR g (pourU h g m' d') d' := by unfold pourE pourR; rw [if_neg (by omega), if_neg (by omega), if_neg (by omega)]
  rw [pg] at h2
  rw [pf, pg]
  generalize pourU h f m d = U at *
  generalize pourU h g m' d' = V at *
  clear pf pg
  have c45 : ¬(g.state = 4 ∨ g.state = 5) := fun c => by unfold pourR at h2; rw [if_pos c] at h2; exact absurd h2 (by decide)
  have c12 : ¬(g.state = 1 ∨ g.state = 2) := fun c => by unfold pourR at h2; rw [if_neg c45, if_pos c] at h2; exact absurd h2 (by decide)
  have cn : ¬(V.2 = false ∨ (g.state = 3 ∧ g.ull.hi < V.1.lo)) := fun c => by unfold pourR at h2; rw [if_neg c45, if_neg c12, if_pos c] at h2; exact absurd h2 (by decide)
  have ct : V.2 = true := by
    cases hh : V.2 with
    | true => rfl
    | false => exact absurd (.inl hh) cn
  obtain ⟨j1, j2, j3⟩ := hi ct
  have cn' : ¬(U.2 = false ∨ (f.state = 3 ∧ f.ull.hi < U.1.lo)) := by
    rintro (hh | ⟨hh, hl⟩)
    · rw [j1] at hh; cases hh
    · exact cn (.inr ⟨by omega, by omega⟩)
  by_cases c3 : g.state = 3
  · have eg : pourR g V d' = (⟨g.hold, 3, ⟨V.1.lo, min V.1.hi g.ull.hi⟩, hullS d' g.den⟩, 0) := by unfold pourR; rw [if_neg c45, if_neg c12, if_neg cn, if_pos c3]
    have ef : pourR f U d = (⟨f.hold, 3, ⟨U.1.lo, min U.1.hi f.ull.hi⟩, hullS d f.den⟩, 0) := by unfold pourR; rw [if_neg (by omega), if_neg (by omega), if_neg cn', if_pos (by omega)]
    rw [eg, ef]
    exact ⟨rfl, ⟨j2, by dsimp only; omega⟩, hull_in hdd n.d⟩
  · have eg : pourR g V d' = (⟨g.hold, 3, V.1, d'⟩, 0) := by unfold pourR; rw [if_neg c45, if_neg c12, if_neg cn, if_neg c3]
    have ef : pourR f U d = (⟨f.hold, 3, U.1, d⟩, 0) := by unfold pourR; rw [if_neg (by omega), if_neg (by omega), if_neg cn', if_neg (by omega)]
    rw [eg, ef]
    exact ⟨rfl, ⟨j2, j3⟩, hdd⟩

theorem Nar.draw {h : Ho} {f g : Fi} (n : Nar h f g) {m m' : Rg} (hm : InS m' m) (hm0 : 0 ≤ m.lo) (hm1 : m.lo ≤ m.hi) (hm2 : m.hi ≤ 1000) (hm3 : m'.lo ≤ m'.hi) (h2 : (drawE h g m').2 = 0) :
    (drawE h f m).2 = 0 ∧ InS (drawE h g m').1.ull (drawE h f m).1.ull := by
  have e := n.st
  have e1 := fillErr_ok n.hold n.hf
  have e2 := fillErr_ok n.hold n.hg
  obtain ⟨i1, i2⟩ := hm
  have r1 := rangeErr_small hm0 hm1 hm2
  have r2 := rangeErr_small (m := m') (by omega) hm3 (by omega)
  have pf : drawE h f m = drawR f (drawV h f m) (drawU h f m) := by unfold drawE drawR; rw [if_neg (by omega), if_neg (by omega), if_neg (by omega)]
  have pg : drawE h g m' = drawR g (drawV h g m') (drawU h g m') := by unfold drawE drawR; rw [if_neg (by omega), if_neg (by omega), if_neg (by omega)]
  rw [pg] at h2
  rw [pf, pg]
  have c13 : ¬¬(1 ≤ g.state ∧ g.state ≤ 3) := fun c => by unfold drawR at h2; rw [if_pos c] at h2; exact absurd h2 (by decide)
  have hd : isDen f.den := by
    obtain ⟨_, ⟨c, _⟩ | ⟨_, _, hd⟩ | ⟨_, _, hd⟩⟩ := n.hf
    · omega
    · exact hd
    · exact hd
  have hd' : isDen g.den := by
    obtain ⟨_, ⟨c, _⟩ | ⟨_, _, hd⟩ | ⟨_, _, hd⟩⟩ := n.hg
    · omega
    · exact hd
    · exact hd
  have hl := lit_mono ⟨i1, i2⟩ n.d hm0 hm3 hd hd'
  have hv := n.vol
  have hp : InS (drawV h g m') (drawV h f m) := by
    obtain ⟨a1, a2⟩ := hl
    obtain ⟨b1, b2⟩ := hv
    unfold drawV InS
    dsimp only
    omega
  have hi := fun h' => invDown_mono n.hold.tabs.1 n.hold.mv hp h'
  change (drawU h g m').2 = true → (drawU h f m).2 = true ∧ InS (drawU h g m').1 (drawU h f m).1 at hi
  obtain ⟨u1, u2⟩ := n.u
  generalize drawU h f m = U at *
  generalize drawU h g m' = V at *
  generalize drawV h f m = u at *
  generalize drawV h g m' = v at *
  clear pf pg
  have cv : ¬v.hi < 0 := fun c => by unfold drawR at h2; rw [if_neg c13, if_pos c] at h2; exact absurd h2 (by decide)
  have cv' : ¬u.hi < 0 := by have := hp.2; omega
  have cn : ¬(V.2 = false ∨ (g.state = 3 ∧ V.1.hi < g.ull.lo)) := fun c => by unfold drawR at h2; rw [if_neg c13, if_neg cv, if_pos c] at h2; exact absurd h2 (by decide)
  have ct : V.2 = true := by
    cases hh : V.2 with
    | true => rfl
    | false => exact absurd (.inl hh) cn
  obtain ⟨j1, j2, j3⟩ := hi ct
  have cn' : ¬(U.2 = false ∨ (f.state = 3 ∧ U.1.hi < f.ull.lo)) := by
    rintro (hh | ⟨hh, hl⟩)
    · rw [j1] at hh; cases hh
    · exact cn (.inr ⟨by omega, by omega⟩)
  by_cases c3 : g.state = 3
  · have eg : drawR g v V = (⟨g.hold, 3, ⟨max V.1.lo g.ull.lo, V.1.hi⟩, g.den⟩, 0) := by unfold drawR; rw [if_neg c13, if_neg cv, if_neg cn, if_pos c3]
    have ef : drawR f u U = (⟨f.hold, 3, ⟨max U.1.lo f.ull.lo, U.1.hi⟩, f.den⟩, 0) := by unfold drawR; rw [if_neg (by omega), if_neg cv', if_neg cn', if_pos (by omega)]
    rw [eg, ef]
    exact ⟨rfl, by dsimp only; omega, j3⟩
  · have eg : drawR g v V = (⟨g.hold, 3, V.1, g.den⟩, 0) := by unfold drawR; rw [if_neg c13, if_neg cv, if_neg cn, if_neg c3]
    have ef : drawR f u U = (⟨f.hold, 3, U.1, f.den⟩, 0) := by unfold drawR; rw [if_neg (by omega), if_neg cv', if_neg cn', if_neg (by omega)]
    rw [eg, ef]
    exact ⟨rfl, j2, j3⟩

end Go.Proofs.Ytbjdgaeikihjbaa
