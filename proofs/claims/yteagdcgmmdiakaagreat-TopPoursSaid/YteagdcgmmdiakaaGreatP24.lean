/-
  Of a hold whose tables lie within another one's, and of a fill within another one, what pouring gives lies within: the plain law of TopPours.
  TopPours, plain: what its loop asks of each part of what is poured.
  Conditions: each theorem's own premises.
-/
import Derived.Test.YteagdcgmmdiakaaGreatP23
import Derived.Test.YteagdcgmmdiakaaGreatP14
namespace Go.Proofs.YteagdcgmmdiakaaGreat
set_option linter.unusedSimpArgs false
set_option linter.unusedVariables false
open Go.RowKit

/-- A table qs within another one ps: the same places, its numbers within. -/
structure TabIn (ps qs : List Pt) : Prop where
  len : qs.length = ps.length
  at_ : ∀ j, j < ps.length → (pt qs j).x = (pt ps j).x ∧ (pt ps j).lo ≤ (pt qs j).lo ∧ (pt qs j).lo ≤ (pt qs j).hi ∧ (pt qs j).hi ≤ (pt ps j).hi
theorem TabIn.ends {ps qs : List Pt} (h : TabIn ps qs) (hp : 1 ≤ ps.length) : firstX qs = firstX ps ∧ lastX qs = lastX ps := by
  refine ⟨(h.at_ 0 (by omega)).1, ?_⟩
  show (pt qs (qs.length - 1)).x = _
  rw [h.len]
  exact (h.at_ _ (by omega)).1

theorem seg_tab {a b c d : Pt} (hc : c.x = a.x) (hd : d.x = b.x) (hab : a.x < b.x) (h1 : a.lo ≤ c.lo) (h2 : b.lo ≤ d.lo) (h3 : c.hi ≤ a.hi) (h4 : d.hi ≤ b.hi) {x : Int} (h5 : a.x ≤ x) (h6 : x ≤ b.x) :
    segLo a b x ≤ segLo c d x ∧ segHi c d x ≤ segHi a b x := by
  have k1 := lin_mono a b a.lo b.lo c.lo d.lo x h5 h6 h1 h2
  have k2 := lin_mono a b c.hi d.hi a.hi b.hi x h5 h6 h3 h4
  unfold lin at k1 k2
  unfold segLo segHi
  rw [hc, hd]
  generalize a.lo * (b.x - x) + b.lo * (x - a.x) = p1 at *
  generalize c.lo * (b.x - x) + d.lo * (x - a.x) = p2 at *
  generalize a.hi * (b.x - x) + b.hi * (x - a.x) = p3 at *
  generalize c.hi * (b.x - x) + d.hi * (x - a.x) = p4 at *
  have e1 := Int.ediv_le_ediv (show 0 < b.x - a.x by omega) k1
  have e2 := Int.ediv_le_ediv (show 0 < b.x - a.x by omega) (show -p3 ≤ -p4 by omega)
  exact ⟨e1, by omega⟩

theorem atS_tab {ps qs : List Pt} (ht : Tab2 ps) (ht' : Tab2 qs) (h : TabIn ps qs) {x : Int} (h1 : firstX ps ≤ x) (h2 : x ≤ lastX ps) : InS (atS qs x) (atS ps x) := by
  obtain ⟨k, k1, k3, k4⟩ := piece_of ht.ok ht.two h1 h2
  have hlt := ht.ok.lt (k + 1) k (by omega) k1
  obtain ⟨a1, a2, _, a3⟩ := h.at_ k (by omega)
  obtain ⟨b1, b2, _, b3⟩ := h.at_ (k + 1) k1
  have e := h.len
  rw [atS_seg ht.ok k1 k3 k4, atS_seg (k := k) ht'.ok (by omega) (by omega) (by omega)]
  exact seg_tab a1 b1 hlt a2 b2 a3 b3 k3 k4

theorem over_tab {ps qs : List Pt} (ht : Tab2 ps) (ht' : Tab2 qs) (h : TabIn ps qs) {r s : Rg} (hr : isPart r (firstX ps) (lastX ps)) (hs : isPart s (firstX ps) (lastX ps)) (hi : InS s r) : InS (overE qs s).1 (overE ps r).1 := by
  obtain ⟨e1, e2⟩ := h.ends (by have := ht.two; omega)
  have hs' : isPart s (firstX qs) (lastX qs) := by rw [e1, e2]; exact hs
  rw [overE_eq ht hr, overE_eq ht' hs']
  obtain ⟨p1, p2, p3⟩ := hr
  obtain ⟨q1, q2, q3⟩ := hs
  obtain ⟨i1, i2⟩ := hi
  have key : ∀ x, s.lo ≤ x → x ≤ s.hi → (overS ps r).lo ≤ (atS qs x).lo ∧ (atS qs x).hi ≤ (overS ps r).hi := fun x a b => by
    have o := over_has ht p1 p3 (x := x) (by omega) (by omega)
    have t := atS_tab ht ht' h (x := x) (by omega) (by omega)
    exact ⟨by have := o.1; have := t.1; omega, by have := o.2; have := t.2; omega⟩
  exact overG_cut ht'.ok (by omega) q2 (by omega) _ _ (key _ (Int.le_refl _) q2) (key _ q2 (Int.le_refl _)) (fun j _ a b => key _ a b) _ (Nat.le_refl _)

theorem atE_tab {ps qs : List Pt} (ht : Tab2 ps) (ht' : Tab2 qs) (h : TabIn ps qs) {x : Int} (h1 : firstX ps ≤ x) (h2 : x ≤ lastX ps) : InS (atE qs x).1 (atE ps x).1 := by
  obtain ⟨e1, e2⟩ := h.ends (by have := ht.two; omega)
  rw [atE_in ht.ok h1 h2, atE_in ht'.ok (by omega) (by omega)]
  exact atS_tab ht ht' h h1 h2

theorem invDown_tab {ps qs : List Pt} (ht : Tab2 ps) (ht' : Tab2 qs) (hm : mono ps (-1)) (hm' : mono qs (-1)) (h : TabIn ps qs) {v v' : Rg} (hv : InS v' v) (h' : (invDown qs v').2 = true) : (invDown ps v).2 = true ∧ InS (invDown qs v').1 (invDown ps v).1 := by
  obtain ⟨i1, i2⟩ := hv
  obtain ⟨e1, e2⟩ := h.ends (by have := ht.two; omega)
  have w' := ways_down ht' hm' v'
  unfold invDown at *
  rw [e1, e2] at w' h' ⊢
  refine inv_mono (ways_down ht hm v) w' ht.ok.ends.2.1 (fun x a b hx => ?_) (fun x a b hx => ?_) h'
  · have t := atE_tab ht ht' h a b
    unfold moreB at hx ⊢
    rw [decide_eq_true_eq] at hx ⊢
    have := t.1
    omega
  · have t := atE_tab ht ht' h a b
    unfold lessB at hx ⊢
    rw [decide_eq_true_eq] at hx ⊢
    have := t.2
    omega

/-- Where less is ahead, the inverse begins earlier. -/
theorem inv_low {ahead behind ahead' behind' : Int → Bool} {a b : Int} (hw : Ways ahead behind a b) (hw' : Ways ahead' behind' a b) (hab : a ≤ b) (h1 : ∀ x, a ≤ x → x ≤ b → ahead x = true → ahead' x = true)
    (h : (invS ahead behind a b).2 = true) (h' : (invS ahead' behind' a b).2 = true) : (invS ahead behind a b).1.lo ≤ (invS ahead' behind' a b).1.lo := by
  have dn : ∀ (ah be : Int → Bool), Ways ah be a b → ∀ x y, a ≤ x → x ≤ y → y ≤ b → (fun x => !ah x) x = true → (fun x => !ah x) y = true := fun ah be hw x y h1 h2 h3 hx => by
    have := hw.dn x y h1 h2 h3
    dsimp only at hx ⊢
    cases hy : ah y
    · rfl
    · simp only [this hy] at hx; cases hx
  have E : ∀ (ah be : Int → Bool), (invS ah be a b).2 = true → invS ah be a b = (⟨max (searchS (fun x => !ah x) a b - 1) a, min (searchS be a b) b⟩, true) := fun ah be hh => by
    unfold invS at hh ⊢
    by_cases c : ah b = true ∨ be a = true
    · rw [if_pos c] at hh; cases hh
    · rw [if_neg c]
  rw [E _ _ h, E _ _ h']
  obtain ⟨s1, s2, s3, s4⟩ := searchS_spec (q := fun x => !ahead x) (a := a) (b := b) (by omega) (dn _ _ hw)
  obtain ⟨t1, t2, t3, t4⟩ := searchS_spec (q := fun x => !ahead' x) (a := a) (b := b) (by omega) (dn _ _ hw')
  have k1 : searchS (fun x => !ahead x) a b ≤ searchS (fun x => !ahead' x) a b := by
    generalize searchS (fun x => !ahead x) a b = S at *
    generalize searchS (fun x => !ahead' x) a b = S' at *
    apply Classical.byContradiction
    intro hc
    have g1 := s3 S' t1 (by omega)
    have g2 := t4 S' (Int.le_refl _) (by omega)
    have g3 := h1 S' t1 (by omega) (by cases hh : ahead S' with | true => rfl | false => rw [hh] at g1; cases g1)
    rw [g3] at g2; cases g2
  dsimp only
  omega

/-- An inverse lies within the places, and is not empty. -/
theorem inv_part {ahead behind : Int → Bool} {a b : Int} (hw : Ways ahead behind a b) (hab : a ≤ b) (hx : ∀ x, a ≤ x → x ≤ b → ahead x = true → behind x = true → False)
    (h : (invS ahead behind a b).2 = true) : isPart (invS ahead behind a b).1 a b := by
  have E : invS ahead behind a b = (⟨max (searchS (fun x => !ahead x) a b - 1) a, min (searchS behind a b) b⟩, true) ∧ ahead b = false ∧ behind a = false := by
    unfold invS at h ⊢
    by_cases c : ahead b = true ∨ behind a = true
    · rw [if_pos c] at h; cases h
    · rw [if_neg c]
      refine ⟨rfl, ?_, ?_⟩
      · cases hh : ahead b with
        | true => exact absurd (.inl hh) c
        | false => rfl
      · cases hh : behind a with
        | true => exact absurd (.inr hh) c
        | false => rfl
  obtain ⟨E, n1, n2⟩ := E
  rw [E]
  obtain ⟨s1, s2, s3, s4⟩ := searchS_spec (q := fun x => !ahead x) (a := a) (b := b) (by omega) (fun x y h1 h2 h3 hx => by
    have := hw.dn x y h1 h2 h3
    try dsimp only at hx ⊢
    cases hy : ahead y
    · rfl
    · simp only [this hy] at hx; cases hx)
  obtain ⟨r1, r2, r3, r4⟩ := searchS_spec (q := behind) (a := a) (b := b) (by omega) hw.up
  generalize searchS (fun x => !ahead x) a b = S at *
  generalize searchS behind a b = R at *
  have hS : S ≤ b := by
    apply Classical.byContradiction
    intro hc
    have := s3 b hab (by omega)
    simp [n1] at this
  have hR : a < R := by
    apply Classical.byContradiction
    intro hc
    have := r4 a (by omega) hab
    rw [n2] at this; cases this
  have hSR : S - 1 ≤ R := by
    apply Classical.byContradiction
    intro hc
    have g1 := s3 (S - 1) (by omega) (by omega)
    have g2 := r4 (S - 1) (by omega) (by omega)
    refine hx (S - 1) (by omega) (by omega) ?_ g2
    cases hh : ahead (S - 1) with
    | true => rfl
    | false => rw [hh] at g1; cases g1
  refine ⟨?_, ?_, ?_⟩
  · dsimp only; omega
  · dsimp only; omega
  · dsimp only; omega

theorem invDown_part {ps : List Pt} (ht : Tab2 ps) (hm : mono ps (-1)) {v : Rg} (hv : v.lo ≤ v.hi) (h : (invDown ps v).2 = true) : isPart (invDown ps v).1 (firstX ps) (lastX ps) := by
  refine inv_part (ways_down ht hm v) ht.ok.ends.2.1 (fun x a b h1 h2 => ?_) h
  unfold moreB at h1
  unfold lessB at h2
  rw [decide_eq_true_eq] at h1 h2
  rw [atE_in ht.ok a b] at h1 h2
  have := atS_le ht.ok a b
  omega

/-- A hold and its fill within another one. -/
structure NarH (h h' : Ho) (f f' : Fi) : Prop where
  hold : HoldOk h
  hold' : HoldOk h'
  hf : FillIn h f
  hf' : FillIn h' f'
  tab : TabIn h.vol.ps h'.vol.ps
  v0 : InS h'.v0 h.v0
  st : f'.state = f.state
  u : InS f'.ull f.ull
  d : InS f'.den f.den

theorem NarH.vol {h h' : Ho} {f f' : Fi} (n : NarH h h' f f') : InS (volS h' f') (volS h f) := by
  have e := n.st
  unfold volS fillS
  by_cases c : f.state = 1 ∨ f.state = 2
  · rw [if_pos (by omega), if_pos c]; exact n.v0
  · rw [if_neg (by omega), if_neg c]
    by_cases c2 : 3 ≤ f.state ∧ f.state ≤ 5
    · rw [if_pos (by omega), if_pos c2]
      have p1 := (fill_free n.hf (by omega)).2.1
      have p2 := (fill_free n.hf' (by omega)).2.1
      obtain ⟨e1, e2⟩ := n.tab.ends (by have := n.hold.tabs.1.two; omega)
      rw [e1, e2] at p2
      exact over_tab n.hold.tabs.1 n.hold'.tabs.1 n.tab p1 p2 n.u
    · rw [if_neg (by omega), if_neg c2]; exact ⟨Int.le_refl _, Int.le_refl _⟩

theorem pour_ok {h : Ho} {f : Fi} {m d : Rg} (e : (pourE h f m d).2 = 0) : (HoldOk h ∧ FillIn h f) ∧ (rangeErr m = 0 ∧ isDen d) ∧ 0 ≤ m.lo ∧ (f.state = 0 ∨ f.state = 3) ∧ (pourU h f m d).2 = true ∧ (f.state = 3 → (pourU h f m d).1.lo ≤ f.ull.hi) ∧
    (pourE h f m d).1 = if f.state = 3 then ⟨f.hold, 3, ⟨(pourU h f m d).1.lo, min (pourU h f m d).1.hi f.ull.hi⟩, hullS d f.den⟩ else ⟨f.hold, 3, (pourU h f m d).1, d⟩ := by
  unfold pourE at e
  by_cases c1 : fillErr h f ≠ 0
  · rw [if_pos c1] at e; exact absurd e c1
  rw [if_neg c1] at e
  by_cases c2 : massErr m d ≠ 0
  · rw [if_pos c2] at e; exact absurd e c2
  rw [if_neg c2] at e
  by_cases c3 : m.lo < 0
  · rw [if_pos c3] at e; exact absurd e (by decide)
  rw [if_neg c3] at e
  by_cases c4 : f.state = 4 ∨ f.state = 5
  · rw [if_pos c4] at e; exact absurd e (by decide)
  rw [if_neg c4] at e
  by_cases c5 : f.state = 1 ∨ f.state = 2
  · rw [if_pos c5] at e; exact absurd e (by decide)
  rw [if_neg c5] at e
  by_cases c6 : (pourU h f m d).2 = false ∨ (f.state = 3 ∧ f.ull.hi < (pourU h f m d).1.lo)
  · rw [if_pos c6] at e; exact absurd e (by decide)
  obtain ⟨h0, h1⟩ := fill_ok (Classical.not_not.1 c1)
  have hst := state_in h1
  refine ⟨⟨h0, h1⟩, massErr_ok (Classical.not_not.1 c2), by omega, by omega, ?_, fun hs => ?_, ?_⟩
  · cases hh : (pourU h f m d).2 with
    | true => rfl
    | false => exact absurd (.inl hh) c6
  · apply Classical.byContradiction
    intro hc
    exact c6 (.inr ⟨hs, by omega⟩)
  · unfold pourE
    rw [if_neg c1, if_neg c2, if_neg c3, if_neg c4, if_neg c5, if_neg c6]
    split <;> rfl

theorem litS_le {m d : Rg} (hm : 0 ≤ m.lo) (h1 : m.lo ≤ m.hi) (hd : isDen d) : (litS m d).lo ≤ (litS m d).hi := by
  obtain ⟨c1, c2, c3⟩ := hd
  unfold litS litLo litHi
  rw [if_neg (by omega), if_neg (by omega)]
  dsimp only
  have a := ndiv_anti (a := 1000 * m.lo) (b := d.lo) (c := d.hi) (by omega) (by omega) c2
  have b := Int.ediv_le_ediv (show 0 < d.lo by omega) (show 1000 * m.lo ≤ 1000 * m.hi by omega)
  have e : 1000 * m.hi / d.lo ≤ -(-(1000 * m.hi) / d.lo) := by
    have k1 := Int.ediv_mul_le (1000 * m.hi) (show d.lo ≠ 0 by omega)
    have k2 := Int.ediv_mul_le (-(1000 * m.hi)) (show d.lo ≠ 0 by omega)
    apply Classical.byContradiction
    intro hc
    have k3 : (1 : Int) * d.lo ≤ (1000 * m.hi / d.lo + -(1000 * m.hi) / d.lo) * d.lo := Int.mul_le_mul_of_nonneg_right (by omega) (by omega)
    rw [Int.add_mul] at k3
    omega
  omega

theorem pour_valid {h : Ho} {f : Fi} {m d : Rg} (e : (pourE h f m d).2 = 0) : FillIn h (pourE h f m d).1 ∧ (pourE h f m d).1.state = 3 := by
  obtain ⟨⟨h0, h1⟩, ⟨r0, hd⟩, hm, hs, hu, hl, E⟩ := pour_ok e
  have hr : m.lo ≤ m.hi := by
    rcases rangeErr_cases m with ⟨_, a, _⟩ | ⟨a, _⟩
    · exact a
    · omega
  have hv : (pourV h f m d).lo ≤ (pourV h f m d).hi := by
    have a := litS_le hm hr hd
    have b := (volS_in h0 f).b
    unfold pourV plusS
    dsimp only
    omega
  have hp := invDown_part h0.tabs.1 h0.mv hv hu
  change isPart (pourU h f m d).1 _ _ at hp
  obtain ⟨p1, p2, p3⟩ := hp
  rw [E]
  by_cases c : f.state = 3
  · rw [if_pos c]
    have q := (fill_free h1 (by omega)).2
    obtain ⟨⟨q1, q2, q3⟩, g1, g2, g3⟩ := q
    obtain ⟨d1, d2, d3⟩ := hd
    have l := hl c
    refine ⟨⟨h1.1, .inr (.inr ⟨⟨by dsimp only; omega, by dsimp only; omega⟩, ?_, ?_⟩)⟩, rfl⟩
    · refine ⟨p1, ?_, ?_⟩
      · dsimp only; omega
      · dsimp only; omega
    · unfold hullS
      refine ⟨?_, ?_, ?_⟩
      · dsimp only; omega
      · dsimp only; omega
      · dsimp only; omega
  · rw [if_neg c]
    exact ⟨⟨h1.1, .inr (.inr ⟨⟨by dsimp only; omega, by dsimp only; omega⟩, ⟨p1, p2, p3⟩, hd⟩)⟩, rfl⟩

/-- What TopPours says of the fill behind pouring, and of each part of it. -/
theorem pours_plain {h h' : Ho} {f f' : Fi} {m d m' d' : Rg} (htab : TabIn h.vol.ps h'.vol.ps) (hv0 : InS h'.v0 h.v0) (hst : f'.state = f.state) (hu : InS f'.ull f.ull) (hde : InS f'.den f.den)
    (e : (pourE h f m d).2 = 0) (e' : (pourE h' f' m' d').2 = 0) (hm : m'.hi ≤ m.hi) (hd : InS d' d) :
    (m.lo ≤ m'.lo → InS (pourE h' f' m' d').1.ull (pourE h f m d).1.ull ∧ InS (pourE h' f' m' d').1.den (pourE h f m d).1.den) ∧
    (betE h f (pourE h f m d).1).2 = 0 ∧ ∃ k, k < (betE h f (pourE h f m d).1).1.length ∧ (fv (betE h f (pourE h f m d).1).1 k).state = 3 ∧ InS (pourE h' f' m' d').1.ull (fv (betE h f (pourE h f m d).1).1 k).ull ∧ InS (pourE h' f' m' d').1.den (fv (betE h f (pourE h f m d).1).1 k).den := by
  obtain ⟨⟨h0, h1⟩, ⟨r0, hdd⟩, hm0, hs, hU, hl, E⟩ := pour_ok e
  obtain ⟨⟨h0', h1'⟩, ⟨r0', hdd'⟩, hm0', hs', hU', hl', E'⟩ := pour_ok e'
  have hr : m.lo ≤ m.hi := by
    rcases rangeErr_cases m with ⟨_, a, _⟩ | ⟨a, _⟩
    · exact a
    · omega
  have hr' : m'.lo ≤ m'.hi := by
    rcases rangeErr_cases m' with ⟨_, a, _⟩ | ⟨a, _⟩
    · exact a
    · omega
  obtain ⟨v1, v2⟩ := pour_valid e
  obtain ⟨v1', v2'⟩ := pour_valid e'
  have n : NarH h h' f f' := ⟨h0, h0', h1, h1', htab, hv0, hst, hu, hde⟩
  obtain ⟨u1, u2⟩ := hu
  obtain ⟨x1, x2⟩ := hde
  obtain ⟨y1, y2⟩ := hd
  have hvol := n.vol
  obtain ⟨e1, e2⟩ := htab.ends (by have := h0.tabs.1.two; omega)
  have lower : (pourU h f m d).1.lo ≤ (pourU h' f' m' d').1.lo := by
    have w' := ways_down h0'.tabs.1 h0'.mv (pourV h' f' m' d')
    have hvh : (pourV h' f' m' d').hi ≤ (pourV h f m d).hi := by
      have a : (litS m' d').hi ≤ (litS m d).hi := (lit_mono (m := ⟨0, m.hi⟩) (m' := m') (d := d) (d' := d') ⟨hm0', hm⟩ ⟨y1, y2⟩ (Int.le_refl _) hr' hdd hdd').2
      have b := hvol.2
      unfold pourV plusS
      dsimp only
      omega
    unfold pourU invDown at *
    rw [e1, e2] at w' hU' ⊢
    refine inv_low (ways_down h0.tabs.1 h0.mv _) w' h0.tabs.1.ok.ends.2.1 (fun x a b hx => ?_) hU hU'
    have t := atE_tab h0.tabs.1 h0'.tabs.1 htab a b
    unfold moreB at hx ⊢
    rw [decide_eq_true_eq] at hx ⊢
    have := t.1
    omega
  refine ⟨fun hml => ?_, ?_⟩
  · have hp : InS (pourV h' f' m' d') (pourV h f m d) := by
      obtain ⟨a1, a2⟩ := lit_mono (m := m) (m' := m') (d := d) (d' := d') ⟨hml, hm⟩ ⟨y1, y2⟩ hm0 hr' hdd hdd'
      obtain ⟨b1, b2⟩ := hvol
      unfold pourV plusS InS
      dsimp only
      omega
    obtain ⟨_, i1, i2⟩ := invDown_tab h0.tabs.1 h0'.tabs.1 h0.mv h0'.mv htab hp hU'
    change (pourU h f m d).1.lo ≤ (pourU h' f' m' d').1.lo at i1
    change (pourU h' f' m' d').1.hi ≤ (pourU h f m d).1.hi at i2
    rw [E, E']
    by_cases c : f.state = 3
    · rw [if_pos c, if_pos (by omega)]
      unfold InS hullS
      dsimp only
      omega
    · rw [if_neg c, if_neg (by omega)]
      exact ⟨⟨i1, i2⟩, y1, y2⟩
  · have k1 := fillErr_ok h0 h1
    have k2 := fillErr_ok h0 v1
    have hb : betE h f (pourE h f m d).1 = if f.state = 3 then ([⟨f.hold, f.state, hullS f.ull (pourE h f m d).1.ull, hullS f.den (pourE h f m d).1.den⟩], 0) else ([f, midS h f (pourE h f m d).1, (pourE h f m d).1], 0) := by
      unfold betE
      rw [if_neg (by omega), if_neg (by omega), v2]
    have hp' := invDown_part h0'.tabs.1 h0'.mv (v := pourV h' f' m' d') (by
      have a := litS_le hm0' hr' hdd'
      have b := (volS_in h0' f').b
      unfold pourV plusS
      dsimp only
      omega) hU'
    obtain ⟨_, _, p3⟩ := hp'
    change (pourU h' f' m' d').1.hi ≤ _ at p3
    rw [hb]
    by_cases c : f.state = 3
    · rw [if_pos c]
      refine ⟨rfl, 0, by simp, c, ?_⟩
      show InS (pourE h' f' m' d').1.ull (hullS f.ull (pourE h f m d).1.ull) ∧ InS (pourE h' f' m' d').1.den (hullS f.den (pourE h f m d).1.den)
      rw [E, E', if_pos c, if_pos (by omega)]
      unfold InS hullS
      dsimp only
      omega
    · rw [if_neg c]
      refine ⟨rfl, 1, by simp, rfl, ?_⟩
      show InS (pourE h' f' m' d').1.ull (midS h f (pourE h f m d).1).ull ∧ InS (pourE h' f' m' d').1.den (midS h f (pourE h f m d).1).den
      have z : f.state = 0 := by omega
      unfold midS
      rw [v2]
      dsimp only
      rw [if_neg (by decide), if_pos z]
      unfold placeS
      rw [if_neg (by omega), if_neg (by omega), if_neg (by rw [v2]; decide), if_pos (by rw [v2]; decide), E, E', if_neg c, if_neg (by omega)]
      unfold InS hullS
      dsimp only
      omega

end Go.Proofs.YteagdcgmmdiakaaGreat

namespace Go.Proofs.YteagdcgmmdiakaaGreat
set_option linter.unusedSimpArgs false
set_option linter.unusedVariables false
open Go.RowKit

/-- A part of a mass, of thousandths. -/
def partM (n part : Int) : Rg := ⟨n * part / 1000, (n * part + 999) / 1000⟩
def prtK (xs : List Int) (k : Nat) : Int := if k = 0 then 1000 else pickN xs 19 1001
/-- A range lies within another one. -/
def inB (a b : Rg) : Bool := decide (b.lo ≤ a.lo ∧ a.hi ≤ b.hi)
theorem inB_of {a b : Rg} (h : InS a b) : inB a b = true := decide_eq_true h
/-- Whether one of the first fills covers an ullage and a density. -/
def covB (l : List Fi) (u d : Rg) : Nat → Bool
  | 0 => false
  | k + 1 => covB l u d k || (decide ((fv l k).state = 3) && (inB u (fv l k).ull && inB d (fv l k).den))
theorem covB_of {l : List Fi} {u d : Rg} {k : Nat} (h3 : (fv l k).state = 3) (hu : InS u (fv l k).ull) (hd : InS d (fv l k).den) : ∀ n, k < n → covB l u d n = true
  | 0, h => absurd h (Nat.not_lt_zero _)
  | n + 1, h => by
    unfold covB
    by_cases e : k = n
    · subst e; rw [decide_eq_true h3, inB_of hu, inB_of hd]; simp
    · rw [covB_of h3 hu hd n (by omega)]; rfl
theorem prtK_in (xs : List Int) (k : Nat) : 0 ≤ prtK xs k ∧ prtK xs k ≤ 1000 := by
  unfold prtK
  split
  · omega
  · have := pickN_in xs 19 (n := 1001) (by decide); omega

theorem upto_pt (f : Nat → Pt) (n k : Nat) (h : k < n) : pt (upto f n) k = f k := by
  simp [pt, upto, h]
theorem tabIn_side {ps : List Pt} (h : TabOk ps) (up : Bool) : TabIn ps (sideP ps up) := by
  refine ⟨upto_length _ _, fun j hj => ?_⟩
  obtain ⟨_, _, a, _⟩ := h.all j hj
  unfold sideP
  rw [upto_pt _ _ _ hj]
  unfold sidePt
  cases up
  · exact ⟨rfl, Int.le_refl _, Int.le_refl _, a⟩
  · exact ⟨rfl, a, Int.le_refl _, Int.le_refl _⟩
theorem tabIn_curve {ps : List Pt} (h : TabOk ps) (xs : List Int) (i : Nat) : TabIn ps (curveP ps xs i) := by
  refine ⟨upto_length _ _, fun j hj => ?_⟩
  obtain ⟨_, _, a, _⟩ := h.all j hj
  unfold curveP
  rw [upto_pt _ _ _ hj]
  have := oneN_in (r := ⟨(pt ps j).lo, (pt ps j).hi⟩) a xs (i + j)
  exact ⟨rfl, this.1, Int.le_refl _, this.2⟩
theorem inS_one {r : Rg} (h : r.lo ≤ r.hi) (xs : List Int) (i : Nat) : InS (oneR r xs i) r := oneN_in h xs i

theorem bet_pour {h : Ho} {f : Fi} {m d : Rg} (e : (pourE h f m d).2 = 0) : (betE h f (pourE h f m d).1).2 = 0 ∧ 1 ≤ (betE h f (pourE h f m d).1).1.length ∧ (betE h f (pourE h f m d).1).1.length ≤ 3 := by
  obtain ⟨⟨h0, h1⟩, _⟩ := pour_ok e
  obtain ⟨v1, v2⟩ := pour_valid e
  have k1 := fillErr_ok h0 h1
  have k2 := fillErr_ok h0 v1
  unfold betE
  rw [if_neg (by omega), if_neg (by omega)]
  split
  · exact ⟨rfl, by simp, by simp⟩
  · exact ⟨rfl, by simp, by simp⟩

theorem partM_in {n : Int} (h : 0 ≤ n) {p : Int} (h0 : 0 ≤ p) (h1 : p ≤ 1000) : (partM n p).hi ≤ n := by
  unfold partM
  dsimp only
  have := Int.mul_le_mul_of_nonneg_left h1 h
  omega

/-- What the loop asks. -/
theorem pours_all {xs : List Int} {h h' : Ho} {f : Fi} {m d : Rg} (hT : HoT xs h 0 h') (e : (pourE h f m d).2 = 0) :
    ∀ k, (pourE h' (fiT xs f 0) (partM (oneN m xs 17) (prtK xs k)) (oneR d xs 18)).2 = 0 → (prtK xs k = 1000 → inB (pourE h' (fiT xs f 0) (partM (oneN m xs 17) (prtK xs k)) (oneR d xs 18)).1.ull (pourE h f m d).1.ull = true ∧ inB (pourE h' (fiT xs f 0) (partM (oneN m xs 17) (prtK xs k)) (oneR d xs 18)).1.den (pourE h f m d).1.den = true) ∧
      covB (betE h f (pourE h f m d).1).1 (pourE h' (fiT xs f 0) (partM (oneN m xs 17) (prtK xs k)) (oneR d xs 18)).1.ull (pourE h' (fiT xs f 0) (partM (oneN m xs 17) (prtK xs k)) (oneR d xs 18)).1.den (betE h f (pourE h f m d).1).1.length = true := by
  intro k e'
  obtain ⟨⟨h0, h1⟩, ⟨r0, hdd⟩, hm0, hs, hU, hl, E⟩ := pour_ok e
  have hr : m.lo ≤ m.hi := by
    rcases rangeErr_cases m with ⟨_, a, _⟩ | ⟨a, _⟩
    · exact a
    · omega
  have hu : f.ull.lo ≤ f.ull.hi ∧ f.den.lo ≤ f.den.hi := by
    obtain ⟨_, ⟨_, a, b⟩ | ⟨_, a, b⟩ | ⟨_, a, b⟩⟩ := h1
    · rw [a, b]; exact ⟨Int.le_refl _, Int.le_refl _⟩
    · rw [a]; exact ⟨Int.le_refl _, b.2.1⟩
    · exact ⟨a.2.1, b.2.1⟩
  obtain ⟨p0, p1⟩ := prtK_in xs k
  obtain ⟨n0, n1⟩ := oneN_in hr xs 17
  have hp := partM_in (n := oneN m xs 17) (by omega) p0 p1
  obtain ⟨a1, _, j, j1, j2, j3, j4⟩ := pours_plain (h := h) (h' := h') (f := f) (f' := fiT xs f 0) (m := m) (d := d) (m' := partM (oneN m xs 17) (prtK xs k)) (d' := oneR d xs 18)
    (by rw [hT.vol]; exact tabIn_side h0.tabs.1.ok _) (by rw [hT.v0]; exact inS_one h0.v0.2.1 xs 0) rfl (inS_one hu.1 xs 12) (inS_one hu.2 xs 13) e e' (by omega) (inS_one hdd.2.1 xs 18)
  refine ⟨fun hk => ?_, covB_of j2 j3 j4 _ j1⟩
  obtain ⟨b1, b2⟩ := a1 (by rw [hk]; unfold partM; dsimp only; omega)
  exact ⟨inB_of b1, inB_of b2⟩

end Go.Proofs.YteagdcgmmdiakaaGreat
