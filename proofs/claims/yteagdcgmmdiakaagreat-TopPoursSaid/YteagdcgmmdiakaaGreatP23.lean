/-
  Plain facts: what is gathered over a range of places, inverses, litres, where no makers are there.
  hold: place; the law's ullage.
  hold: Between.
  Conditions: each theorem's own premises.
-/
import Derived.Test.YteagdcgmmdiakaaGreatP06
import Derived.Test.YteagdcgmmdiakaaGreatP07
import Derived.LoopN
namespace Go.Proofs.YteagdcgmmdiakaaGreat
set_option linter.unusedSimpArgs false
set_option linter.unusedVariables false
open Go.RowKit

/-! ### A range's gathering -/

theorem gTake_le (g : Rg) (r : Rg) (h : r.lo ≤ r.hi) : (gTake (some g) r).lo ≤ g.lo ∧ g.hi ≤ (gTake (some g) r).hi ∧ (gTake (some g) r).lo ≤ r.lo ∧ r.hi ≤ (gTake (some g) r).hi := by
  simp only [gTake, gAdd]; omega
theorem gTake0_le (r : Rg) (h : r.lo ≤ r.hi) : (gTake none r).lo ≤ r.lo ∧ r.hi ≤ (gTake none r).hi := by
  simp only [gTake, gAdd]; omega

theorem atS_le {ps : List Pt} (hok : TabOk ps) {x : Int} (h1 : firstX ps ≤ x) (h2 : x ≤ lastX ps) : (atS ps x).lo ≤ (atS ps x).hi :=
  (atS_in hok h1 h2 (-1000000000) 1000000000 (fun k hk => by obtain ⟨_, _, _, a, b, _⟩ := hok.all k hk; exact ⟨a, b⟩)).b

/-- What was gathered has the values at the ends and at the points within. -/
theorem overG_has {ps : List Pt} (hok : TabOk ps) {r : Rg} (h1 : firstX ps ≤ r.lo) (h2 : r.lo ≤ r.hi) (h3 : r.hi ≤ lastX ps) : ∀ k, k ≤ ps.length →
    ((overG ps r k).lo ≤ (atS ps r.lo).lo ∧ (atS ps r.lo).hi ≤ (overG ps r k).hi) ∧ ((overG ps r k).lo ≤ (atS ps r.hi).lo ∧ (atS ps r.hi).hi ≤ (overG ps r k).hi) ∧
    ∀ j, j < k → r.lo ≤ (pt ps j).x → (pt ps j).x ≤ r.hi → (overG ps r k).lo ≤ (atS ps (pt ps j).x).lo ∧ (atS ps (pt ps j).x).hi ≤ (overG ps r k).hi
  | 0, _ => by
    have a := gTake0_le _ (atS_le hok h1 (by omega : r.lo ≤ lastX ps))
    have b := gTake_le (gTake none (atS ps r.lo)) _ (atS_le hok (by omega : firstX ps ≤ r.hi) h3)
    unfold overG
    simp only [List.take_zero, List.foldl_nil]
    exact ⟨⟨by omega, by omega⟩, ⟨by omega, by omega⟩, fun j hj => by omega⟩
  | k + 1, hk => by
    obtain ⟨⟨a1, a2⟩, ⟨b1, b2⟩, c⟩ := overG_has hok h1 h2 h3 k (by omega)
    rw [overG_succ ps r k (by omega)]
    unfold overStep
    split
    · rename_i hc
      have g := gTake_le (overG ps r k) _ (atS_le hok (by omega : firstX ps ≤ (pt ps k).x) (by omega))
      refine ⟨⟨by omega, by omega⟩, ⟨by omega, by omega⟩, fun j hj e1 e2 => ?_⟩
      by_cases e : j = k
      · subst e; omega
      · have := c j (by omega) e1 e2; omega
    · rename_i hc
      refine ⟨⟨a1, a2⟩, ⟨b1, b2⟩, fun j hj e1 e2 => ?_⟩
      by_cases e : j = k
      · subst e; exact absurd ⟨e1, e2⟩ hc
      · exact c j (by omega) e1 e2

theorem seg_between (a b : Pt) (h : a.x < b.x) (s x e : Int) (h1 : s ≤ x) (h2 : x ≤ e) (L U : Int) (hs : L ≤ segLo a b s ∧ segHi a b s ≤ U) (he : L ≤ segLo a b e ∧ segHi a b e ≤ U) : L ≤ segLo a b x ∧ segHi a b x ≤ U := by
  constructor
  · rcases Int.le_total a.lo b.lo with hl | hl
    · have := (segLo_step a b s x h h1).1 hl; omega
    · have := (segLo_step a b x e h h2).2 hl; omega
  · rcases Int.le_total a.hi b.hi with hl | hl
    · have := (segHi_step a b x e h h2).1 hl; omega
    · have := (segHi_step a b s x h h1).2 hl; omega

/-- The values over a range have those at each of its places. -/
theorem over_has {ps : List Pt} (ht : Tab2 ps) {r : Rg} (h1 : firstX ps ≤ r.lo) (h3 : r.hi ≤ lastX ps) {x : Int} (hx1 : r.lo ≤ x) (hx2 : x ≤ r.hi) :
    (overS ps r).lo ≤ (atS ps x).lo ∧ (atS ps x).hi ≤ (overS ps r).hi := by
  have hok := ht.ok
  obtain ⟨a, b, c⟩ := overG_has hok h1 (by omega) h3 ps.length (Nat.le_refl _)
  change (overS ps r).lo ≤ _ ∧ _ ≤ (overS ps r).hi at a
  change (overS ps r).lo ≤ _ ∧ _ ≤ (overS ps r).hi at b
  change ∀ j, j < ps.length → _ → _ → (overS ps r).lo ≤ _ ∧ _ ≤ (overS ps r).hi at c
  obtain ⟨k, k1, k2, k3⟩ := piece_of hok ht.two (show firstX ps ≤ x by omega) (show x ≤ lastX ps by omega)
  have hlt := hok.lt (k + 1) k (by omega) k1
  have key : ∀ y, (pt ps k).x ≤ y → y ≤ (pt ps (k + 1)).x → (overS ps r).lo ≤ (atS ps y).lo ∧ (atS ps y).hi ≤ (overS ps r).hi → (overS ps r).lo ≤ segLo (pt ps k) (pt ps (k + 1)) y ∧ segHi (pt ps k) (pt ps (k + 1)) y ≤ (overS ps r).hi := fun y e1 e2 h => by
    rw [atS_seg hok k1 e1 e2] at h; exact h
  rw [atS_seg hok k1 k2 k3]
  -- the nearest gathered places on the piece
  have hs : ∃ s, (pt ps k).x ≤ s ∧ s ≤ x ∧ (overS ps r).lo ≤ (atS ps s).lo ∧ (atS ps s).hi ≤ (overS ps r).hi := by
    by_cases e : (pt ps k).x < r.lo
    · exact ⟨r.lo, by omega, hx1, a⟩
    · exact ⟨(pt ps k).x, by omega, k2, c k (by omega) (by omega) (by omega)⟩
  have he : ∃ e, x ≤ e ∧ e ≤ (pt ps (k + 1)).x ∧ (overS ps r).lo ≤ (atS ps e).lo ∧ (atS ps e).hi ≤ (overS ps r).hi := by
    by_cases e : r.hi < (pt ps (k + 1)).x
    · exact ⟨r.hi, hx2, by omega, b⟩
    · exact ⟨(pt ps (k + 1)).x, k3, by omega, c (k + 1) k1 (by omega) (by omega)⟩
  obtain ⟨s, s1, s2, s3⟩ := hs
  obtain ⟨e, e1, e2, e3⟩ := he
  exact seg_between _ _ hlt s x e s2 e1 _ _ (key s s1 (by omega) s3) (key e (by omega) e2 e3)

theorem fill_free {h : Ho} {f : Fi} (h1 : FillIn h f) (h3 : 3 ≤ f.state) : (3 ≤ f.state ∧ f.state ≤ 5) ∧ isPart f.ull (firstX h.vol.ps) (lastX h.vol.ps) ∧ isDen f.den := by
  obtain ⟨_, ⟨e, _⟩ | ⟨e, _⟩ | ⟨e, hp, hd⟩⟩ := h1
  · omega
  · omega
  · exact ⟨e, hp, hd⟩

theorem overE_eq {ps : List Pt} (ht : Tab2 ps) {r : Rg} (h : isPart r (firstX ps) (lastX ps)) : (overE ps r).1 = overS ps r := by
  obtain ⟨p1, p2, p3⟩ := h
  have hends := ht.ok.ends
  unfold overE
  rw [if_pos ht.ok, if_pos (by unfold rangeErr; rw [if_neg (by omega)]), if_pos ⟨by omega, by omega⟩]

/-- A range lies within another one. -/
def InS (a b : Rg) : Prop := b.lo ≤ a.lo ∧ a.hi ≤ b.hi

theorem nTake_lo (g r : Rg) (M : Int) (h1 : M ≤ g.lo) (h2 : M ≤ r.lo) (h3 : r.lo ≤ r.hi) : M ≤ (gTake (some g) r).lo := by
  simp only [gTake, gAdd]; omega
theorem nTake0_lo (r : Rg) (M : Int) (h2 : M ≤ r.lo) (h3 : r.lo ≤ r.hi) : M ≤ (gTake none r).lo := by
  simp only [gTake, gAdd]; omega
theorem nTake_hi (g r : Rg) (M : Int) (h1 : g.hi ≤ M) (h2 : r.hi ≤ M) (h3 : r.lo ≤ r.hi) : (gTake (some g) r).hi ≤ M := by
  simp only [gTake, gAdd]; omega
theorem nTake0_hi (r : Rg) (M : Int) (h2 : r.hi ≤ M) (h3 : r.lo ≤ r.hi) : (gTake none r).hi ≤ M := by
  simp only [gTake, gAdd]; omega

theorem overG_cut {ps : List Pt} (hok : TabOk ps) {r : Rg} (h1 : firstX ps ≤ r.lo) (h2 : r.lo ≤ r.hi) (h3 : r.hi ≤ lastX ps) (L M : Int) (a : L ≤ (atS ps r.lo).lo ∧ (atS ps r.lo).hi ≤ M) (b : L ≤ (atS ps r.hi).lo ∧ (atS ps r.hi).hi ≤ M)
    (c : ∀ j, j < ps.length → r.lo ≤ (pt ps j).x → (pt ps j).x ≤ r.hi → L ≤ (atS ps (pt ps j).x).lo ∧ (atS ps (pt ps j).x).hi ≤ M) : ∀ k, k ≤ ps.length → L ≤ (overG ps r k).lo ∧ (overG ps r k).hi ≤ M
  | 0, _ => by
    have e1 := atS_le hok h1 (by omega : r.lo ≤ lastX ps)
    have e2 := atS_le hok (by omega : firstX ps ≤ r.hi) h3
    unfold overG
    simp only [List.take_zero, List.foldl_nil]
    exact ⟨nTake_lo _ _ L (nTake0_lo _ L a.1 e1) b.1 e2, nTake_hi _ _ M (nTake0_hi _ M a.2 e1) b.2 e2⟩
  | k + 1, hk => by
    have ih := overG_cut hok h1 h2 h3 L M a b c k (by omega)
    rw [overG_succ ps r k (by omega)]
    unfold overStep
    split
    · rename_i hc
      have e := c k (by omega) hc.1 hc.2
      have e3 := atS_le hok (x := (pt ps k).x) (by omega) (by omega)
      exact ⟨nTake_lo _ _ L ih.1 e.1 e3, nTake_hi _ _ M ih.2 e.2 e3⟩
    · exact ih

theorem over_mono {ps : List Pt} (ht : Tab2 ps) {r s : Rg} (hr : isPart r (firstX ps) (lastX ps)) (hs : isPart s (firstX ps) (lastX ps)) (h : InS s r) : InS (overE ps s).1 (overE ps r).1 := by
  rw [overE_eq ht hr, overE_eq ht hs]
  obtain ⟨p1, p2, p3⟩ := hr
  obtain ⟨q1, q2, q3⟩ := hs
  obtain ⟨i1, i2⟩ := h
  have key : ∀ x, s.lo ≤ x → x ≤ s.hi → (overS ps r).lo ≤ (atS ps x).lo ∧ (atS ps x).hi ≤ (overS ps r).hi := fun x a b => over_has ht p1 p3 (by omega) (by omega)
  exact overG_cut ht.ok q1 q2 q3 _ _ (key _ (Int.le_refl _) q2) (key _ q2 (Int.le_refl _)) (fun j _ a b => key _ a b) _ (Nat.le_refl _)

theorem weigh_mono {v v' d d' : Rg} (hv : InS v' v) (hd : InS d' d) (h1 : 0 ≤ v.lo) (h2 : v'.lo ≤ v'.hi) (h3 : 0 ≤ d.lo) (h4 : d'.lo ≤ d'.hi) : InS (weighS v' d') (weighS v d) := by
  obtain ⟨a1, a2⟩ := hv
  obtain ⟨b1, b2⟩ := hd
  have m1 : v.lo * d.lo ≤ v'.lo * d'.lo := Int.mul_le_mul a1 b1 h3 (by omega)
  have m2 : v'.hi * d'.hi ≤ v.hi * d.hi := Int.mul_le_mul a2 b2 (by omega) (by omega)
  unfold weighS InS
  dsimp only
  generalize v.lo * d.lo = p1 at *
  generalize v'.lo * d'.lo = p2 at *
  generalize v.hi * d.hi = p3 at *
  generalize v'.hi * d'.hi = p4 at *
  omega

theorem ndiv_anti {a b c : Int} (ha : 0 ≤ a) (hb : 1 ≤ b) (hc : b ≤ c) : a / c ≤ a / b := by
  have h1 : a / c * b ≤ a / c * c := Int.mul_le_mul_of_nonneg_left hc (Int.ediv_nonneg ha (by omega))
  have h2 := Int.ediv_mul_le a (show c ≠ 0 by omega)
  exact (Int.le_ediv_iff_mul_le (by omega)).2 (by omega)
theorem ndiv_mono_neg {a b c : Int} (ha : a ≤ 0) (hb : 1 ≤ b) (hc : b ≤ c) : a / b ≤ a / c := by
  have h0 : a / b ≤ 0 := by
    have := Int.ediv_mul_le a (show b ≠ 0 by omega)
    apply Classical.byContradiction
    intro h
    have : 1 * b ≤ a / b * b := Int.mul_le_mul_of_nonneg_right (by omega) (by omega)
    omega
  have h1 : a / b * c ≤ a / b * b := by
    have : (-(a / b)) * b ≤ (-(a / b)) * c := Int.mul_le_mul_of_nonneg_left hc (by omega)
    rw [Int.neg_mul, Int.neg_mul] at this
    omega
  have h2 := Int.ediv_mul_le a (show b ≠ 0 by omega)
  exact (Int.le_ediv_iff_mul_le (by omega)).2 (by omega)

theorem lit_mono {m m' d d' : Rg} (hm : InS m' m) (hd : InS d' d) (h0 : 0 ≤ m.lo) (h1 : m'.lo ≤ m'.hi) (h2 : isDen d) (h3 : isDen d') : InS (litS m' d') (litS m d) := by
  obtain ⟨a1, a2⟩ := hm
  obtain ⟨b1, b2⟩ := hd
  obtain ⟨c1, c2, c3⟩ := h2
  obtain ⟨e1, e2, e3⟩ := h3
  unfold litS litLo litHi InS
  rw [if_neg (by omega), if_neg (by omega), if_neg (by omega), if_neg (by omega)]
  dsimp only
  constructor
  · exact Int.le_trans (Int.ediv_le_ediv (by omega) (by omega : 1000 * m.lo ≤ 1000 * m'.lo)) (ndiv_anti (by omega) (by omega) b2)
  · have := Int.le_trans (Int.ediv_le_ediv (by omega) (by omega : -(1000 * m.hi) ≤ -(1000 * m'.hi)) : -(1000 * m.hi) / d.lo ≤ -(1000 * m'.hi) / d.lo) (ndiv_mono_neg (a := -(1000 * m'.hi)) (b := d.lo) (c := d'.lo) (by omega) (by omega) b1)
    omega

theorem inv_mono {ahead behind ahead' behind' : Int → Bool} {a b : Int} (hw : Ways ahead behind a b) (hw' : Ways ahead' behind' a b) (hab : a ≤ b) (h1 : ∀ x, a ≤ x → x ≤ b → ahead x = true → ahead' x = true) (h2 : ∀ x, a ≤ x → x ≤ b → behind x = true → behind' x = true)
    (h : (invS ahead' behind' a b).2 = true) : (invS ahead behind a b).2 = true ∧ InS (invS ahead' behind' a b).1 (invS ahead behind a b).1 := by
  have n1 : ahead' b = false := by
    cases hh : ahead' b with
    | false => rfl
    | true => unfold invS at h; rw [if_pos (.inl hh)] at h; cases h
  have n2 : behind' a = false := by
    cases hh : behind' a with
    | false => rfl
    | true => unfold invS at h; rw [if_pos (.inr hh)] at h; cases h
  have n3 : ahead b = false := by
    cases hh : ahead b with
    | false => rfl
    | true => rw [h1 b hab (Int.le_refl _) hh] at n1; cases n1
  have n4 : behind a = false := by
    cases hh : behind a with
    | false => rfl
    | true => rw [h2 a (Int.le_refl _) hab hh] at n2; cases n2
  have e : invS ahead behind a b = (⟨max (searchS (fun x => !ahead x) a b - 1) a, min (searchS behind a b) b⟩, true) := if_neg (by simp [n3, n4])
  have e' : invS ahead' behind' a b = (⟨max (searchS (fun x => !ahead' x) a b - 1) a, min (searchS behind' a b) b⟩, true) := if_neg (by simp [n1, n2])
  have dn : ∀ (ah be : Int → Bool), Ways ah be a b → ∀ x y, a ≤ x → x ≤ y → y ≤ b → (fun x => !ah x) x = true → (fun x => !ah x) y = true := fun ah be hw x y h1 h2 h3 hx => by
    have := hw.dn x y h1 h2 h3
    dsimp only at hx ⊢
    cases hy : ah y
    · rfl
    · simp only [this hy] at hx; cases hx
  obtain ⟨s1, s2, s3, s4⟩ := searchS_spec (q := fun x => !ahead x) (a := a) (b := b) (by omega) (dn _ _ hw)
  obtain ⟨t1, t2, t3, t4⟩ := searchS_spec (q := fun x => !ahead' x) (a := a) (b := b) (by omega) (dn _ _ hw')
  obtain ⟨r1, r2, r3, r4⟩ := searchS_spec (q := behind) (a := a) (b := b) (by omega) hw.up
  obtain ⟨u1, u2, u3, u4⟩ := searchS_spec (q := behind') (a := a) (b := b) (by omega) hw'.up
  rw [e, e']
  refine ⟨rfl, ?_⟩
  generalize searchS (fun x => !ahead x) a b = S at *
  generalize searchS (fun x => !ahead' x) a b = S' at *
  generalize searchS behind a b = R at *
  generalize searchS behind' a b = R' at *
  have k1 : S ≤ S' := by
    apply Classical.byContradiction
    intro hc
    have g1 := s3 S' t1 (by omega)
    have g2 := t4 S' (Int.le_refl _) (by omega)
    have g3 := h1 S' t1 (by omega) (by cases hh : ahead S' with | true => rfl | false => rw [hh] at g1; cases g1)
    rw [g3] at g2; cases g2
  have k2 : R' ≤ R := by
    apply Classical.byContradiction
    intro hc
    have g1 := r4 R (Int.le_refl _) (by omega)
    have g2 := u3 R r1 (by omega)
    rw [h2 R r1 (by omega) g1] at g2; cases g2
  unfold InS
  dsimp only
  omega

theorem invDown_mono {ps : List Pt} (ht : Tab2 ps) (hm : mono ps (-1)) {v v' : Rg} (h : InS v' v) (h' : (invDown ps v').2 = true) : (invDown ps v).2 = true ∧ InS (invDown ps v').1 (invDown ps v).1 := by
  obtain ⟨i1, i2⟩ := h
  refine inv_mono (ways_down ht hm v) (ways_down ht hm v') ht.ok.ends.2.1 (fun x _ _ hx => ?_) (fun x _ _ hx => ?_) h'
  · unfold moreB at hx ⊢
    rw [decide_eq_true_eq] at hx ⊢
    omega
  · unfold lessB at hx ⊢
    rw [decide_eq_true_eq] at hx ⊢
    omega

theorem hull_in {a b c d : Rg} (h1 : InS a c) (h2 : InS b d) : InS (hullS a b) (hullS c d) := by
  obtain ⟨a1, a2⟩ := h1
  obtain ⟨b1, b2⟩ := h2
  unfold InS hullS
  dsimp only
  omega

end Go.Proofs.YteagdcgmmdiakaaGreat

namespace Go.Proofs.YteagdcgmmdiakaaGreat
set_option linter.unusedSimpArgs false
set_option linter.unusedVariables false
open Go.RowKit
set_option maxRecDepth 100000
set_option maxHeartbeats 4000000
attribute [local go_sem] Instr.field asAgg Soft.upon Soft.BW.cell_if Soft.BW.frozen_if Soft.cell_alloc_if Soft.frozen_alloc_if

/-- The ullage of a fill, that of an empty or filled hold too. -/
def placeS (h : Ho) (f : Fi) : Rg := if f.state = 1 ∨ f.state = 2 then ⟨firstX h.vol.ps, firstX h.vol.ps⟩ else if 3 ≤ f.state ∧ f.state ≤ 5 then f.ull else ⟨lastX h.vol.ps, lastX h.vol.ps⟩


theorem hold_place (h : Ho) (f : Fi) (w : World) (hh : h.At w) (hok : HoldOk h) (hs : 0 ≤ f.state ∧ f.state ≤ 5) :
    Calls Tryz.prog 31 #[.agg #[.int .i64 (h).id, .int .i64 ((h).along).lo, .int .i64 ((h).along).hi, .slice ((h).vol).p ((h).vol).n ((h).vol).c, .slice ((h).mom).p ((h).mom).n ((h).mom).c, .slice ((h).hei).p ((h).hei).n ((h).hei).c, .int .i64 ((h).tri).lo, .int .i64 ((h).tri).hi, .int .i64 ((h).unt).lo, .int .i64 ((h).unt).hi, .int .i64 ((h).v0).lo, .int .i64 ((h).v0).hi, .int .i64 ((h).h0).lo, .int .i64 ((h).h0).hi], .agg #[.int .i64 (f).hold, .int .i64 (f).state, .int .i64 ((f).ull).lo, .int .i64 ((f).ull).hi, .int .i64 ((f).den).lo, .int .i64 ((f).den).hi]] w fun e w' => e = .returned (.agg #[.int .i64 (placeS h f).lo, .int .i64 (placeS h f).hi]) ∧ Below w.heap.size w w' := by
  have hv := hh.1
  have hn : 1 ≤ h.vol.n := by rw [← hv.1]; exact hok.tabs.1.ok.pos
  clear hok
  rcases st_class f.state with ⟨hc, m, hst⟩ | ⟨hc, m, hst⟩ | ⟨hc, m, hst⟩ | ⟨hc, hst⟩
  · have HST := Lib.hid hst; clear hst
    have HV := Lib.hid (show placeS h f = ⟨lastX h.vol.ps, lastX h.vol.ps⟩ by unfold placeS; rw [if_neg (by omega), if_neg (by omega)]); clear hc
    go_enter Tryz.func31, Tryz.ntmps31
    go_wp2_with (first | (go_at_call 65; (with_reducible refine (hold_domain h.vol _ (by repeat (first | exact hv | refine Tb.At.alloc ?_ _ | refine Tb.At.bw ?_ _)) hn).mono ?_); rintro e w_ ⟨rfl, hb_⟩; obtain ⟨y0, rfl⟩ := Soft.BW.mk hb_; clear hb_) | (go_at_call 26; (with_reducible refine (hold_stateOf f.state _ _ _ _ _ HST.out).mono ?_); rintro e w_ ⟨rfl, hb_⟩; obtain ⟨y1, rfl⟩ := Soft.BW.mk hb_; clear hb_))
    rw [HV.out]
    refine bodyPost_ret (v := .agg #[.int .i64 (lastX h.vol.ps), .int .i64 (lastX h.vol.ps)]) (by simp [results, Tryz.results31, go_sem]) rfl ?_
    refine ⟨rfl, ?_⟩
    (repeat (first | with_reducible exact bel_refl _ | with_reducible refine bel_alloc ?_ _ | with_reducible refine bel_bw _ ?_ | with_reducible refine bel_drew ?_ | with_reducible refine bel_drewN _ ?_ | ((with_reducible refine bel_set ?_ ?_ _); rotate_left; focus (first | (simp; done) | omega | (simp; omega))) | refine bel_step ?_ (by with_reducible assumption)))
  · have HST := Lib.hid hst; clear hst
    have HV := Lib.hid (show placeS h f = ⟨firstX h.vol.ps, firstX h.vol.ps⟩ by unfold placeS; rw [if_pos hc]); clear hc
    go_enter Tryz.func31, Tryz.ntmps31
    go_wp2_with (first | (go_at_call 65; (with_reducible refine (hold_domain h.vol _ (by repeat (first | exact hv | refine Tb.At.alloc ?_ _ | refine Tb.At.bw ?_ _)) hn).mono ?_); rintro e w_ ⟨rfl, hb_⟩; obtain ⟨y0, rfl⟩ := Soft.BW.mk hb_; clear hb_) | (go_at_call 26; (with_reducible refine (hold_stateOf f.state _ _ _ _ _ HST.out).mono ?_); rintro e w_ ⟨rfl, hb_⟩; obtain ⟨y1, rfl⟩ := Soft.BW.mk hb_; clear hb_))
    rw [HV.out]
    refine bodyPost_ret (v := .agg #[.int .i64 (firstX h.vol.ps), .int .i64 (firstX h.vol.ps)]) (by simp [results, Tryz.results31, go_sem]) rfl ?_
    refine ⟨rfl, ?_⟩
    (repeat (first | with_reducible exact bel_refl _ | with_reducible refine bel_alloc ?_ _ | with_reducible refine bel_bw _ ?_ | with_reducible refine bel_drew ?_ | with_reducible refine bel_drewN _ ?_ | ((with_reducible refine bel_set ?_ ?_ _); rotate_left; focus (first | (simp; done) | omega | (simp; omega))) | refine bel_step ?_ (by with_reducible assumption)))
  · have HST := Lib.hid hst; clear hst
    have HV := Lib.hid (show placeS h f = f.ull by unfold placeS; rw [if_neg (by omega), if_pos hc]); clear hc
    go_enter Tryz.func31, Tryz.ntmps31
    go_wp2_with (first | (go_at_call 65; (with_reducible refine (hold_domain h.vol _ (by repeat (first | exact hv | refine Tb.At.alloc ?_ _ | refine Tb.At.bw ?_ _)) hn).mono ?_); rintro e w_ ⟨rfl, hb_⟩; obtain ⟨y0, rfl⟩ := Soft.BW.mk hb_; clear hb_) | (go_at_call 26; (with_reducible refine (hold_stateOf f.state _ _ _ _ _ HST.out).mono ?_); rintro e w_ ⟨rfl, hb_⟩; obtain ⟨y1, rfl⟩ := Soft.BW.mk hb_; clear hb_))
    rw [HV.out]
    refine bodyPost_ret (v := .agg #[.int .i64 f.ull.lo, .int .i64 f.ull.hi]) (by simp [results, Tryz.results31, go_sem]) rfl ?_
    refine ⟨rfl, ?_⟩
    (repeat (first | with_reducible exact bel_refl _ | with_reducible refine bel_alloc ?_ _ | with_reducible refine bel_bw _ ?_ | with_reducible refine bel_drew ?_ | with_reducible refine bel_drewN _ ?_ | ((with_reducible refine bel_set ?_ ?_ _); rotate_left; focus (first | (simp; done) | omega | (simp; omega))) | refine bel_step ?_ (by with_reducible assumption)))
  · exact absurd hs hc


end Go.Proofs.YteagdcgmmdiakaaGreat

namespace Go.Proofs.YteagdcgmmdiakaaGreat
set_option linter.unusedSimpArgs false
set_option linter.unusedVariables false
open Go.RowKit
set_option maxRecDepth 100000
set_option maxHeartbeats 4000000
attribute [local go_sem] Instr.field asAgg Soft.upon Soft.BW.cell_if Soft.BW.frozen_if Soft.cell_alloc_if Soft.frozen_alloc_if

/-- A slice of fills as it lies in memory. -/
structure Fs where
  p : Option Addr
  n : Nat
  c : Nat
  xs : List Fi
abbrev fv (l : List Fi) (i : Nat) : Fi := l[i]?.getD default
def Fs.At (w : World) (s : Fs) : Prop :=
  s.xs.length = s.n ∧ s.n ≤ s.c ∧ s.c ≤ 9223372036854775807 ∧ (s.n ≠ 0 → ∃ b o, s.p = some ⟨b, o, none⟩ ∧ b < w.heap.size ∧
    ∀ i, i < s.n → w.cell? ⟨b, o + i * 6, none⟩ = some (.int .i64 (fv s.xs i).hold) ∧ w.cell? ⟨b, o + i * 6 + 1, none⟩ = some (.int .i64 (fv s.xs i).state) ∧ w.cell? ⟨b, o + i * 6 + 2, none⟩ = some (.int .i64 (fv s.xs i).ull.lo) ∧
      w.cell? ⟨b, o + i * 6 + 3, none⟩ = some (.int .i64 (fv s.xs i).ull.hi) ∧ w.cell? ⟨b, o + i * 6 + 4, none⟩ = some (.int .i64 (fv s.xs i).den.lo) ∧ w.cell? ⟨b, o + i * 6 + 5, none⟩ = some (.int .i64 (fv s.xs i).den.hi))
theorem Fs.At.same {w w' : World} {s : Fs} (h : s.At w) (hb : Below w.heap.size w w') : s.At w' := by
  obtain ⟨h1, h2, h3, h4⟩ := h
  refine ⟨h1, h2, h3, fun hn => ?_⟩
  obtain ⟨b, o, e, hlt, hc⟩ := h4 hn
  refine ⟨b, o, e, Nat.lt_of_lt_of_le hlt hb.size, fun i hi => ?_⟩
  have key : ∀ k, w'.cell? ⟨b, k, none⟩ = w.cell? ⟨b, k, none⟩ := fun k => hb.cell (p := ⟨b, k, none⟩) hlt
  rw [key, key, key, key, key, key]
  exact hc i hi
theorem Fs.At.alloc {w : World} {s : Fs} (h : s.At w) (o : Obj) : s.At (w.alloc o) := h.same ((Below.refl _ _).alloc (Nat.le_refl _) o)
theorem Fs.At.bw {w : World} {s : Fs} (h : s.At w) (x : Soft.BW w) : s.At x.w := h.same x.below
theorem Fs.At.drew {w : World} {s : Fs} (h : s.At w) : s.At w.drew := h

/-- The fill between two of them. -/
def midS (h : Ho) (f g : Fi) : Fi := ⟨f.hold, 3, hullS (placeS h f) (placeS h g), if g.state = 0 then f.den else if f.state = 0 then g.den else hullS f.den g.den⟩
def betE (h : Ho) (f g : Fi) : List Fi × Int :=
  if fillErr h f ≠ 0 then ([], fillErr h f) else if fillErr h g ≠ 0 then ([], fillErr h g) else if f.state = g.state then ([⟨f.hold, f.state, hullS f.ull g.ull, hullS f.den g.den⟩], 0) else ([f, midS h f g, g], 0)

def BetPost (l : List Fi) (er : Int) (w : World) (e : Ending) (w' : World) : Prop :=
  ∃ s : Fs, e = .returned (.tuple #[.slice s.p s.n s.c, .int .i64 er]) ∧ s.At w' ∧ s.xs = l ∧ Below w.heap.size w w'

theorem fs_of_blk1 {w : World} {g : Nat} {a : Fi} {t : TypeId} (h : HasBlk w g #[.int .i64 (a).hold, .int .i64 (a).state, .int .i64 ((a).ull).lo, .int .i64 ((a).ull).hi, .int .i64 ((a).den).lo, .int .i64 ((a).den).hi] t) : Fs.At w ⟨some ⟨g, 0, none⟩, 1, 1, [a]⟩ := by
  refine ⟨rfl, Nat.le_refl _, by dsimp only; omega, fun _ => ⟨g, 0, rfl, h.lt, fun i hi => ?_⟩⟩
  dsimp only at hi
  match i, hi with
  | 0, _ => exact ⟨h.cell 0, h.cell 1, h.cell 2, h.cell 3, h.cell 4, h.cell 5⟩
theorem fs_of_blk3 {w : World} {g : Nat} {a b c : Fi} {t : TypeId} (h : HasBlk w g #[.int .i64 (a).hold, .int .i64 (a).state, .int .i64 ((a).ull).lo, .int .i64 ((a).ull).hi, .int .i64 ((a).den).lo, .int .i64 ((a).den).hi, .int .i64 (b).hold, .int .i64 (b).state, .int .i64 ((b).ull).lo, .int .i64 ((b).ull).hi, .int .i64 ((b).den).lo, .int .i64 ((b).den).hi, .int .i64 (c).hold, .int .i64 (c).state, .int .i64 ((c).ull).lo, .int .i64 ((c).ull).hi, .int .i64 ((c).den).lo, .int .i64 ((c).den).hi] t) : Fs.At w ⟨some ⟨g, 0, none⟩, 3, 3, [a, b, c]⟩ := by
  refine ⟨rfl, Nat.le_refl _, by dsimp only; omega, fun _ => ⟨g, 0, rfl, h.lt, fun i hi => ?_⟩⟩
  dsimp only at hi
  match i, hi with
  | 0, _ => exact ⟨h.cell 0, h.cell 1, h.cell 2, h.cell 3, h.cell 4, h.cell 5⟩
  | 1, _ => exact ⟨h.cell 6, h.cell 7, h.cell 8, h.cell 9, h.cell 10, h.cell 11⟩
  | 2, _ => exact ⟨h.cell 12, h.cell 13, h.cell 14, h.cell 15, h.cell 16, h.cell 17⟩


theorem fs_nil (w : World) : Fs.At w ⟨none, 0, 0, []⟩ := ⟨rfl, Nat.le_refl _, by dsimp only; omega, fun h => absurd rfl h⟩


theorem hold_Between (h : Ho) (f g : Fi) (w : World) (hh : h.At w) :
    Calls Tryz.prog 10 #[.agg #[.int .i64 (h).id, .int .i64 ((h).along).lo, .int .i64 ((h).along).hi, .slice ((h).vol).p ((h).vol).n ((h).vol).c, .slice ((h).mom).p ((h).mom).n ((h).mom).c, .slice ((h).hei).p ((h).hei).n ((h).hei).c, .int .i64 ((h).tri).lo, .int .i64 ((h).tri).hi, .int .i64 ((h).unt).lo, .int .i64 ((h).unt).hi, .int .i64 ((h).v0).lo, .int .i64 ((h).v0).hi, .int .i64 ((h).h0).lo, .int .i64 ((h).h0).hi], .agg #[.int .i64 (f).hold, .int .i64 (f).state, .int .i64 ((f).ull).lo, .int .i64 ((f).ull).hi, .int .i64 ((f).den).lo, .int .i64 ((f).den).hi], .agg #[.int .i64 (g).hold, .int .i64 (g).state, .int .i64 ((g).ull).lo, .int .i64 ((g).ull).hi, .int .i64 ((g).den).lo, .int .i64 ((g).den).hi]] w (BetPost (betE h f g).1 (betE h f g).2 w) := by
  by_cases cf : fillErr h f = 0
  · have dF : (fillErr h f != 0) = false := by rw [cf]; rfl
    by_cases cg : fillErr h g = 0
    · have dG : (fillErr h g != 0) = false := by rw [cg]; rfl
      obtain ⟨h0, h1⟩ := fill_ok cf
      obtain ⟨_, h2⟩ := fill_ok cg
      have CHD : Hid (∀ W, Calls Tryz.prog 30 #[.agg #[.int .i64 (f.den).lo, .int .i64 (f.den).hi], .agg #[.int .i64 (g.den).lo, .int .i64 (g.den).hi]] W fun e w' => e = .returned (.agg #[.int .i64 ((hullS f.den g.den)).lo, .int .i64 ((hullS f.den g.den)).hi]) ∧ Below W.heap.size W w') := Lib.hid (fun W => hold_hull _ _ W)
      by_cases cs : f.state = g.state
      · have HV := Lib.hid (show betE h f g = ([⟨f.hold, f.state, hullS f.ull g.ull, hullS f.den g.den⟩], 0) by unfold betE; rw [if_neg (by omega), if_neg (by omega), if_pos cs])
        have ds : (f.state == g.state) = true := by rw [cs]; simp
        have CHP : Hid (∀ W, Calls Tryz.prog 30 #[.agg #[.int .i64 (f.ull).lo, .int .i64 (f.ull).hi], .agg #[.int .i64 (g.ull).lo, .int .i64 (g.ull).hi]] W fun e w' => e = .returned (.agg #[.int .i64 ((hullS f.ull g.ull)).lo, .int .i64 ((hullS f.ull g.ull)).hi]) ∧ Below W.heap.size W w') := Lib.hid (fun W => hold_hull _ _ W)
        rw [HV.out]
        clear cf cg cs h0 h1 h2 HV
        generalize hullS f.ull g.ull = hp at *
        generalize hullS f.den g.den = hd at *
        go_enter Tryz.func10, Tryz.ntmps10
        go_wp2_with fail
        refine wp_loop_rounds 3 ?_
        rw [rounds_succ]
        go_wp2_with ((go_at_call 24; (with_reducible refine (hold_CheckFill h f _ (by with_reducible repeat (first | exact hh | refine Ho.At.alloc ?_ _ | refine Ho.At.bw ?_ _ | refine Tk.At.alloc ?_ _ | refine Tk.At.bw ?_ _))).mono ?_); rintro e w_ ⟨rfl, hb_⟩; obtain ⟨y1, rfl⟩ := Soft.BW.mk hb_; clear hb_))
        rw [rounds_succ]
        go_wp2_with ((go_at_call 24; (with_reducible refine (hold_CheckFill h g _ (by with_reducible repeat (first | exact hh | refine Ho.At.alloc ?_ _ | refine Ho.At.bw ?_ _ | refine Tk.At.alloc ?_ _ | refine Tk.At.bw ?_ _))).mono ?_); rintro e w_ ⟨rfl, hb_⟩; obtain ⟨y2, rfl⟩ := Soft.BW.mk hb_; clear hb_))
        rw [rounds_succ]
        go_wp2_with fail
        (refine Soft.region1 [0, 1, 2, 3, 4, 5, 6, 7, 8, 9, 10, 11, 12, 13, 14] 15 [16, 17] _ (by kernel_rfl) (by kernel_rfl) (by kernel_rfl) rfl rfl (by kernel_rfl) ?_; change Soft.wpSoft _ _ _ _ _ [_, _, _, _, _, _, _, _, _, _, _, _, _, _, _] _; (repeat (refine Soft.soft_step (fun K hK => ?_); go_simp; (try go_bits); first | (refine hK _ ?_; clear hK K) | (apply Exists.intro; refine ⟨fun x => ?_, hK _ ?_⟩; (first | (go_at_call 30; with_reducible exact (CHP.out _)) | (go_at_call 30; with_reducible exact (CHD.out _))); clear hK K))); refine Soft.soft_nil ?_)
        refine ⟨fun b => .slice (some ⟨b, 0, none⟩) 1 1, .cells #[.int .i64 f.hold, .int .i64 f.state, .int .i64 hp.lo, .int .i64 hp.hi, .int .i64 hd.lo, .int .i64 hd.hi] 44, fun x => by go_simp, fun kb xx hnew => ?_⟩
        change wpList _ _ _ [_, _] _ _
        obtain ⟨N, x1, rfl, ex⟩ := newSplit hnew
        rw [ex]
        clear hnew ex xx
        go_wp2_with fail
        go_ret2
        refine ⟨⟨some ⟨N.w.heap.size, 0, none⟩, 1, 1, [⟨f.hold, f.state, hp, hd⟩]⟩, rfl, fs_of_blk1 (a := ⟨f.hold, f.state, hp, hd⟩) (HasBlk.below (Soft.heap_new N.w _) x1.below), rfl, ?_⟩
        (repeat (first | with_reducible exact bel_refl _ | with_reducible refine bel_alloc ?_ _ | with_reducible refine bel_bw _ ?_ | with_reducible refine bel_drew ?_ | with_reducible refine bel_drewN _ ?_ | ((with_reducible refine bel_set ?_ ?_ _); rotate_left; focus (first | (simp; done) | omega | (simp; omega))) | refine bel_step ?_ (by with_reducible assumption)))
      · have HV := Lib.hid (show betE h f g = ([f, midS h f g, g], 0) by unfold betE; rw [if_neg (by omega), if_neg (by omega), if_neg cs])
        have ds : (f.state == g.state) = false := by rw [beq_eq_false_iff_ne]; exact cs
        have CPF : Hid (∀ W, h.At W → Calls Tryz.prog 31 #[.agg #[.int .i64 (h).id, .int .i64 ((h).along).lo, .int .i64 ((h).along).hi, .slice ((h).vol).p ((h).vol).n ((h).vol).c, .slice ((h).mom).p ((h).mom).n ((h).mom).c, .slice ((h).hei).p ((h).hei).n ((h).hei).c, .int .i64 ((h).tri).lo, .int .i64 ((h).tri).hi, .int .i64 ((h).unt).lo, .int .i64 ((h).unt).hi, .int .i64 ((h).v0).lo, .int .i64 ((h).v0).hi, .int .i64 ((h).h0).lo, .int .i64 ((h).h0).hi], .agg #[.int .i64 (f).hold, .int .i64 (f).state, .int .i64 ((f).ull).lo, .int .i64 ((f).ull).hi, .int .i64 ((f).den).lo, .int .i64 ((f).den).hi]] W fun e w' => e = .returned (.agg #[.int .i64 ((placeS h f)).lo, .int .i64 ((placeS h f)).hi]) ∧ Below W.heap.size W w') := Lib.hid (fun W hW => hold_place h f W hW h0 (state_in h1))
        have CPG : Hid (∀ W, h.At W → Calls Tryz.prog 31 #[.agg #[.int .i64 (h).id, .int .i64 ((h).along).lo, .int .i64 ((h).along).hi, .slice ((h).vol).p ((h).vol).n ((h).vol).c, .slice ((h).mom).p ((h).mom).n ((h).mom).c, .slice ((h).hei).p ((h).hei).n ((h).hei).c, .int .i64 ((h).tri).lo, .int .i64 ((h).tri).hi, .int .i64 ((h).unt).lo, .int .i64 ((h).unt).hi, .int .i64 ((h).v0).lo, .int .i64 ((h).v0).hi, .int .i64 ((h).h0).lo, .int .i64 ((h).h0).hi], .agg #[.int .i64 (g).hold, .int .i64 (g).state, .int .i64 ((g).ull).lo, .int .i64 ((g).ull).hi, .int .i64 ((g).den).lo, .int .i64 ((g).den).hi]] W fun e w' => e = .returned (.agg #[.int .i64 ((placeS h g)).lo, .int .i64 ((placeS h g)).hi]) ∧ Below W.heap.size W w') := Lib.hid (fun W hW => hold_place h g W hW h0 (state_in h2))
        have CHP : Hid (∀ W, Calls Tryz.prog 30 #[.agg #[.int .i64 ((placeS h f)).lo, .int .i64 ((placeS h f)).hi], .agg #[.int .i64 ((placeS h g)).lo, .int .i64 ((placeS h g)).hi]] W fun e w' => e = .returned (.agg #[.int .i64 ((hullS (placeS h f) (placeS h g))).lo, .int .i64 ((hullS (placeS h f) (placeS h g))).hi]) ∧ Below W.heap.size W w') := Lib.hid (fun W => hold_hull _ _ W)
        clear h0
        by_cases z1 : f.state = 0
        · have d1 : (f.state == 0) = true := by rw [z1]; rfl
          have d2 : (g.state == 0) = false := by rw [beq_eq_false_iff_ne]; omega
          have HD := Lib.hid (show betE h f g = ([f, ⟨f.hold, 3, hullS (placeS h f) (placeS h g), g.den⟩, g], 0) by rw [HV.out]; unfold midS; rw [if_neg (by omega), if_pos z1])
          rw [HD.out]
          clear cf cg cs h1 h2 HV HD z1
          generalize hullS (placeS h f) (placeS h g) = hp at *
          generalize hullS f.den g.den = hd at *
          go_enter Tryz.func10, Tryz.ntmps10
          go_wp2_with fail
          refine wp_loop_rounds 3 ?_
          rw [rounds_succ]
          go_wp2_with ((go_at_call 24; (with_reducible refine (hold_CheckFill h f _ (by with_reducible repeat (first | exact hh | refine Ho.At.alloc ?_ _ | refine Ho.At.bw ?_ _ | refine Tk.At.alloc ?_ _ | refine Tk.At.bw ?_ _))).mono ?_); rintro e w_ ⟨rfl, hb_⟩; obtain ⟨y1, rfl⟩ := Soft.BW.mk hb_; clear hb_))
          rw [rounds_succ]
          go_wp2_with ((go_at_call 24; (with_reducible refine (hold_CheckFill h g _ (by with_reducible repeat (first | exact hh | refine Ho.At.alloc ?_ _ | refine Ho.At.bw ?_ _ | refine Tk.At.alloc ?_ _ | refine Tk.At.bw ?_ _))).mono ?_); rintro e w_ ⟨rfl, hb_⟩; obtain ⟨y2, rfl⟩ := Soft.BW.mk hb_; clear hb_))
          rw [rounds_succ]
          go_wp2_with fail
          (refine Soft.region1 [0, 1, 2, 3, 4, 5, 6, 7, 8, 9, 10, 11, 12, 13, 14] 15 [16] _ (by kernel_rfl) (by kernel_rfl) (by kernel_rfl) rfl rfl (by kernel_rfl) ?_; change Soft.wpSoft _ _ _ _ _ [_, _, _, _, _, _, _, _, _, _, _, _, _, _, _] _; (repeat (refine Soft.soft_step (fun K hK => ?_); go_simp; (try go_bits); first | (refine hK _ ?_; clear hK K) | (apply Exists.intro; refine ⟨fun x => ?_, hK _ ?_⟩; (first | (go_at_call 31; with_reducible exact (CPF.out _ (by with_reducible repeat (first | exact hh | refine Ho.At.alloc ?_ _ | refine Ho.At.bw ?_ _ | refine Tk.At.alloc ?_ _ | refine Tk.At.bw ?_ _)))) | (go_at_call 31; with_reducible exact (CPG.out _ (by with_reducible repeat (first | exact hh | refine Ho.At.alloc ?_ _ | refine Ho.At.bw ?_ _ | refine Tk.At.alloc ?_ _ | refine Tk.At.bw ?_ _)))) | (go_at_call 30; with_reducible exact (CHP.out _)) | (go_at_call 30; with_reducible exact (CHD.out _))); clear hK K))); refine Soft.soft_nil ?_)
          refine ⟨fun b => .pointer (some ⟨b, 0, none⟩), .cells #[.int .i64 0, .int .i64 0, .int .i64 0, .int .i64 0, .int .i64 0, .int .i64 0] 44, fun x => by go_simp, fun kb xx hnew => ?_⟩
          change wpList _ _ _ [_] _ _
          obtain ⟨N, x1, rfl, ex⟩ := newSplit hnew
          rw [ex]
          clear hnew ex xx
          refine wpList_store_row rfl 44 _ _ rfl N.w.heap.size _ rfl rfl 44 _ (HasBlk.below (Soft.heap_new N.w _) x1.below) (by kernel_rfl) rfl (by kernel_rfl) ?_
          obtain ⟨q1, ex2, ex3⟩ := bwStore x1 #[.int .i64 f.hold, .int .i64 3, .int .i64 hp.lo, .int .i64 hp.hi, .int .i64 hd.lo, .int .i64 hd.hi]
          rw [ex2]
          clear ex2 ex3 x1
          obtain ⟨y2, e1, e2⟩ := bwPut q1 4 (.int .i64 (g.den).lo) _ rfl
          obtain ⟨y3, e3, e4⟩ := bwPut y2 5 (.int .i64 (g.den).hi) _ rfl
          clear e2 e4
          go_wp2_with fail
          go_ret2
          refine ⟨⟨some ⟨(y3.w).heap.size, 0, none⟩, 3, 3, [f, ⟨f.hold, 3, hp, g.den⟩, g]⟩, rfl, fs_of_blk3 (a := f) (b := ⟨f.hold, 3, hp, g.den⟩) (c := g) (Soft.heap_new _ _), rfl, ?_⟩
          (repeat (first | with_reducible exact bel_refl _ | with_reducible refine bel_alloc ?_ _ | with_reducible refine bel_bw _ ?_ | with_reducible refine bel_drew ?_ | with_reducible refine bel_drewN _ ?_ | ((with_reducible refine bel_set ?_ ?_ _); rotate_left; focus (first | (simp; done) | omega | (simp; omega))) | refine bel_step ?_ (by with_reducible assumption)))
        · have d1 : (f.state == 0) = false := by rw [beq_eq_false_iff_ne]; exact z1
          by_cases z2 : g.state = 0
          · have d2 : (g.state == 0) = true := by rw [z2]; rfl
            have HD := Lib.hid (show betE h f g = ([f, ⟨f.hold, 3, hullS (placeS h f) (placeS h g), f.den⟩, g], 0) by rw [HV.out]; unfold midS; rw [if_pos z2])
            rw [HD.out]
            clear cf cg cs h1 h2 HV HD z1 z2
            generalize hullS (placeS h f) (placeS h g) = hp at *
            generalize hullS f.den g.den = hd at *
            go_enter Tryz.func10, Tryz.ntmps10
            go_wp2_with fail
            refine wp_loop_rounds 3 ?_
            rw [rounds_succ]
            go_wp2_with ((go_at_call 24; (with_reducible refine (hold_CheckFill h f _ (by with_reducible repeat (first | exact hh | refine Ho.At.alloc ?_ _ | refine Ho.At.bw ?_ _ | refine Tk.At.alloc ?_ _ | refine Tk.At.bw ?_ _))).mono ?_); rintro e w_ ⟨rfl, hb_⟩; obtain ⟨y1, rfl⟩ := Soft.BW.mk hb_; clear hb_))
            rw [rounds_succ]
            go_wp2_with ((go_at_call 24; (with_reducible refine (hold_CheckFill h g _ (by with_reducible repeat (first | exact hh | refine Ho.At.alloc ?_ _ | refine Ho.At.bw ?_ _ | refine Tk.At.alloc ?_ _ | refine Tk.At.bw ?_ _))).mono ?_); rintro e w_ ⟨rfl, hb_⟩; obtain ⟨y2, rfl⟩ := Soft.BW.mk hb_; clear hb_))
            rw [rounds_succ]
            go_wp2_with fail
            (refine Soft.region1 [0, 1, 2, 3, 4, 5, 6, 7, 8, 9, 10, 11, 12, 13, 14] 15 [16] _ (by kernel_rfl) (by kernel_rfl) (by kernel_rfl) rfl rfl (by kernel_rfl) ?_; change Soft.wpSoft _ _ _ _ _ [_, _, _, _, _, _, _, _, _, _, _, _, _, _, _] _; (repeat (refine Soft.soft_step (fun K hK => ?_); go_simp; (try go_bits); first | (refine hK _ ?_; clear hK K) | (apply Exists.intro; refine ⟨fun x => ?_, hK _ ?_⟩; (first | (go_at_call 31; with_reducible exact (CPF.out _ (by with_reducible repeat (first | exact hh | refine Ho.At.alloc ?_ _ | refine Ho.At.bw ?_ _ | refine Tk.At.alloc ?_ _ | refine Tk.At.bw ?_ _)))) | (go_at_call 31; with_reducible exact (CPG.out _ (by with_reducible repeat (first | exact hh | refine Ho.At.alloc ?_ _ | refine Ho.At.bw ?_ _ | refine Tk.At.alloc ?_ _ | refine Tk.At.bw ?_ _)))) | (go_at_call 30; with_reducible exact (CHP.out _)) | (go_at_call 30; with_reducible exact (CHD.out _))); clear hK K))); refine Soft.soft_nil ?_)
            refine ⟨fun b => .pointer (some ⟨b, 0, none⟩), .cells #[.int .i64 0, .int .i64 0, .int .i64 0, .int .i64 0, .int .i64 0, .int .i64 0] 44, fun x => by go_simp, fun kb xx hnew => ?_⟩
            change wpList _ _ _ [_] _ _
            obtain ⟨N, x1, rfl, ex⟩ := newSplit hnew
            rw [ex]
            clear hnew ex xx
            refine wpList_store_row rfl 44 _ _ rfl N.w.heap.size _ rfl rfl 44 _ (HasBlk.below (Soft.heap_new N.w _) x1.below) (by kernel_rfl) rfl (by kernel_rfl) ?_
            obtain ⟨q1, ex2, ex3⟩ := bwStore x1 #[.int .i64 f.hold, .int .i64 3, .int .i64 hp.lo, .int .i64 hp.hi, .int .i64 hd.lo, .int .i64 hd.hi]
            rw [ex2]
            clear ex2 ex3 x1
            obtain ⟨y2, e1, e2⟩ := bwPut q1 4 (.int .i64 (f.den).lo) _ rfl
            obtain ⟨y3, e3, e4⟩ := bwPut y2 5 (.int .i64 (f.den).hi) _ rfl
            clear e2 e4
            go_wp2_with fail
            go_ret2
            refine ⟨⟨some ⟨(y3.w).heap.size, 0, none⟩, 3, 3, [f, ⟨f.hold, 3, hp, f.den⟩, g]⟩, rfl, fs_of_blk3 (a := f) (b := ⟨f.hold, 3, hp, f.den⟩) (c := g) (Soft.heap_new _ _), rfl, ?_⟩
            (repeat (first | with_reducible exact bel_refl _ | with_reducible refine bel_alloc ?_ _ | with_reducible refine bel_bw _ ?_ | with_reducible refine bel_drew ?_ | with_reducible refine bel_drewN _ ?_ | ((with_reducible refine bel_set ?_ ?_ _); rotate_left; focus (first | (simp; done) | omega | (simp; omega))) | refine bel_step ?_ (by with_reducible assumption)))
          · have d2 : (g.state == 0) = false := by rw [beq_eq_false_iff_ne]; exact z2
            have HD := Lib.hid (show betE h f g = ([f, ⟨f.hold, 3, hullS (placeS h f) (placeS h g), hullS f.den g.den⟩, g], 0) by rw [HV.out]; unfold midS; rw [if_neg z2, if_neg z1])
            rw [HD.out]
            clear cf cg cs h1 h2 HV HD z1 z2
            generalize hullS (placeS h f) (placeS h g) = hp at *
            generalize hullS f.den g.den = hd at *
            go_enter Tryz.func10, Tryz.ntmps10
            go_wp2_with fail
            refine wp_loop_rounds 3 ?_
            rw [rounds_succ]
            go_wp2_with ((go_at_call 24; (with_reducible refine (hold_CheckFill h f _ (by with_reducible repeat (first | exact hh | refine Ho.At.alloc ?_ _ | refine Ho.At.bw ?_ _ | refine Tk.At.alloc ?_ _ | refine Tk.At.bw ?_ _))).mono ?_); rintro e w_ ⟨rfl, hb_⟩; obtain ⟨y1, rfl⟩ := Soft.BW.mk hb_; clear hb_))
            rw [rounds_succ]
            go_wp2_with ((go_at_call 24; (with_reducible refine (hold_CheckFill h g _ (by with_reducible repeat (first | exact hh | refine Ho.At.alloc ?_ _ | refine Ho.At.bw ?_ _ | refine Tk.At.alloc ?_ _ | refine Tk.At.bw ?_ _))).mono ?_); rintro e w_ ⟨rfl, hb_⟩; obtain ⟨y2, rfl⟩ := Soft.BW.mk hb_; clear hb_))
            rw [rounds_succ]
            go_wp2_with fail
            (refine Soft.region1 [0, 1, 2, 3, 4, 5, 6, 7, 8, 9, 10, 11, 12, 13, 14] 15 [16] _ (by kernel_rfl) (by kernel_rfl) (by kernel_rfl) rfl rfl (by kernel_rfl) ?_; change Soft.wpSoft _ _ _ _ _ [_, _, _, _, _, _, _, _, _, _, _, _, _, _, _] _; (repeat (refine Soft.soft_step (fun K hK => ?_); go_simp; (try go_bits); first | (refine hK _ ?_; clear hK K) | (apply Exists.intro; refine ⟨fun x => ?_, hK _ ?_⟩; (first | (go_at_call 31; with_reducible exact (CPF.out _ (by with_reducible repeat (first | exact hh | refine Ho.At.alloc ?_ _ | refine Ho.At.bw ?_ _ | refine Tk.At.alloc ?_ _ | refine Tk.At.bw ?_ _)))) | (go_at_call 31; with_reducible exact (CPG.out _ (by with_reducible repeat (first | exact hh | refine Ho.At.alloc ?_ _ | refine Ho.At.bw ?_ _ | refine Tk.At.alloc ?_ _ | refine Tk.At.bw ?_ _)))) | (go_at_call 30; with_reducible exact (CHP.out _)) | (go_at_call 30; with_reducible exact (CHD.out _))); clear hK K))); refine Soft.soft_nil ?_)
            refine ⟨fun b => .pointer (some ⟨b, 0, none⟩), .cells #[.int .i64 0, .int .i64 0, .int .i64 0, .int .i64 0, .int .i64 0, .int .i64 0] 44, fun x => by go_simp, fun kb xx hnew => ?_⟩
            change wpList _ _ _ [_] _ _
            obtain ⟨N, x1, rfl, ex⟩ := newSplit hnew
            rw [ex]
            clear hnew ex xx
            refine wpList_store_row rfl 44 _ _ rfl N.w.heap.size _ rfl rfl 44 _ (HasBlk.below (Soft.heap_new N.w _) x1.below) (by kernel_rfl) rfl (by kernel_rfl) ?_
            obtain ⟨q1, ex2, ex3⟩ := bwStore x1 #[.int .i64 f.hold, .int .i64 3, .int .i64 hp.lo, .int .i64 hp.hi, .int .i64 hd.lo, .int .i64 hd.hi]
            rw [ex2]
            clear ex2 ex3 x1
            go_wp2_with fail
            go_ret2
            refine ⟨⟨some ⟨(q1.w).heap.size, 0, none⟩, 3, 3, [f, ⟨f.hold, 3, hp, hd⟩, g]⟩, rfl, fs_of_blk3 (a := f) (b := ⟨f.hold, 3, hp, hd⟩) (c := g) (Soft.heap_new _ _), rfl, ?_⟩
            (repeat (first | with_reducible exact bel_refl _ | with_reducible refine bel_alloc ?_ _ | with_reducible refine bel_bw _ ?_ | with_reducible refine bel_drew ?_ | with_reducible refine bel_drewN _ ?_ | ((with_reducible refine bel_set ?_ ?_ _); rotate_left; focus (first | (simp; done) | omega | (simp; omega))) | refine bel_step ?_ (by with_reducible assumption)))
    · have HV := Lib.hid (show betE h f g = ([], fillErr h g) by unfold betE; rw [if_neg (by omega), if_pos cg])
      have dG : (fillErr h g != 0) = true := bne_iff_ne.2 cg
      clear cf cg
      rw [HV.out]
      go_enter Tryz.func10, Tryz.ntmps10
      go_wp2_with fail
      refine wp_loop_rounds 3 ?_
      rw [rounds_succ]
      go_wp2_with ((go_at_call 24; (with_reducible refine (hold_CheckFill h f _ (by with_reducible repeat (first | exact hh | refine Ho.At.alloc ?_ _ | refine Ho.At.bw ?_ _ | refine Tk.At.alloc ?_ _ | refine Tk.At.bw ?_ _))).mono ?_); rintro e w_ ⟨rfl, hb_⟩; obtain ⟨y1, rfl⟩ := Soft.BW.mk hb_; clear hb_))
      rw [rounds_succ]
      go_wp2_with ((go_at_call 24; (with_reducible refine (hold_CheckFill h g _ (by with_reducible repeat (first | exact hh | refine Ho.At.alloc ?_ _ | refine Ho.At.bw ?_ _ | refine Tk.At.alloc ?_ _ | refine Tk.At.bw ?_ _))).mono ?_); rintro e w_ ⟨rfl, hb_⟩; obtain ⟨y2, rfl⟩ := Soft.BW.mk hb_; clear hb_))
      go_ret2
      refine ⟨⟨none, 0, 0, []⟩, rfl, fs_nil _, rfl, ?_⟩
      (repeat (first | with_reducible exact bel_refl _ | with_reducible refine bel_alloc ?_ _ | with_reducible refine bel_bw _ ?_ | with_reducible refine bel_drew ?_ | with_reducible refine bel_drewN _ ?_ | ((with_reducible refine bel_set ?_ ?_ _); rotate_left; focus (first | (simp; done) | omega | (simp; omega))) | refine bel_step ?_ (by with_reducible assumption)))
  · have HV := Lib.hid (show betE h f g = ([], fillErr h f) by unfold betE; rw [if_pos cf])
    have dF : (fillErr h f != 0) = true := bne_iff_ne.2 cf
    clear cf
    rw [HV.out]
    go_enter Tryz.func10, Tryz.ntmps10
    go_wp2_with fail
    refine wp_loop_rounds 3 ?_
    rw [rounds_succ]
    go_wp2_with ((go_at_call 24; (with_reducible refine (hold_CheckFill h f _ (by with_reducible repeat (first | exact hh | refine Ho.At.alloc ?_ _ | refine Ho.At.bw ?_ _ | refine Tk.At.alloc ?_ _ | refine Tk.At.bw ?_ _))).mono ?_); rintro e w_ ⟨rfl, hb_⟩; obtain ⟨y1, rfl⟩ := Soft.BW.mk hb_; clear hb_))
    go_ret2
    refine ⟨⟨none, 0, 0, []⟩, rfl, fs_nil _, rfl, ?_⟩
    (repeat (first | with_reducible exact bel_refl _ | with_reducible refine bel_alloc ?_ _ | with_reducible refine bel_bw _ ?_ | with_reducible refine bel_drew ?_ | with_reducible refine bel_drewN _ ?_ | ((with_reducible refine bel_set ?_ ?_ _); rotate_left; focus (first | (simp; done) | omega | (simp; omega))) | refine bel_step ?_ (by with_reducible assumption)))

end Go.Proofs.YteagdcgmmdiakaaGreat
