/-
  TopBounds, plain: the twofold area of a narrower table lies within.
  TopBounds, plain: the margins of the truth lie within.
  TopBounds, plain: the facts of the truth lie within; all that the law asks.
  Conditions: each theorem's own premises.
-/
import Derived.Test.YteagdcgmmdiakaaGreatP29
namespace Go.Proofs.YteagdcgmmdiakaaGreat
set_option linter.unusedSimpArgs false
set_option linter.unusedVariables false
open Go.RowKit
set_option maxHeartbeats 1000000
/-- A sum is the fraction n / m. -/
structure SmIs (s : Sm) (n m : Int) : Prop where
  den : 1 ≤ s.den
  pos : 1 ≤ m
  eq : (s.whole * s.den + s.num) * m = n * s.den
theorem smIs_add {w a e u d n m : Int} (h : SmIs ⟨w, a, e⟩ n m) (hd : 1 ≤ d) : SmIs (smAddX ⟨w, a, e⟩ u d) (n * d + u * m) (m * d) := by
  obtain ⟨h1, h2, h3⟩ := h
  dsimp only at h1 h3
  have hm : 1 ≤ m * d := Int.mul_pos (show 0 < m by omega) (show 0 < d by omega)
  have r0 := Int.emod_nonneg u (show d ≠ 0 by omega)
  have r1 := Int.emod_add_mul_ediv u d
  rw [Int.mul_comm d] at r1
  unfold smAddX
  dsimp only
  generalize u / d = q at *
  generalize u % d = r at *
  have r2 : u - q * d = r := by omega
  rw [r2]
  split
  · refine ⟨Int.mul_pos (show 0 < e by omega) (show 0 < d by omega), hm, ?_⟩
    dsimp only
    have hu : u = q * d + r := by omega
    subst hu
    grind
  · have e0 : r = 0 := by omega
    subst e0
    have hu : u = q * d := by omega
    subst hu
    refine ⟨h1, hm, ?_⟩
    dsimp only
    grind
theorem smIs_up {w a e c n m : Int} (h : SmIs ⟨w, a, e⟩ n m) : SmIs ⟨w + c, a, e⟩ (n + c * m) m := by
  obtain ⟨h1, h2, h3⟩ := h
  refine ⟨h1, h2, ?_⟩
  dsimp only at h3 ⊢
  grind
theorem smIs_floor {s : Sm} {n m : Int} (h : SmIs s n m) : s.whole + s.num / s.den = n / m := by
  obtain ⟨h1, h2, h3⟩ := h
  have a : (s.num + s.whole * s.den) / s.den = s.num / s.den + s.whole := Int.add_mul_ediv_right _ _ (by omega)
  have b : (s.num + s.whole * s.den) * m / (s.den * m) = (s.num + s.whole * s.den) / s.den := Int.mul_ediv_mul_of_pos_left _ _ (by omega)
  have c : n * s.den / (m * s.den) = n / m := Int.mul_ediv_mul_of_pos_left _ _ (by omega)
  rw [← c, ← h3, Int.mul_comm m, Int.add_comm (s.whole * s.den), b, a]
  omega
theorem smIs_ceil {s : Sm} {n m : Int} (h : SmIs s n m) : s.whole + -(-s.num / s.den) = -(-n / m) := by
  have h' : SmIs ⟨-s.whole, -s.num, s.den⟩ (-n) m := ⟨h.den, h.pos, by have := h.eq; dsimp only; grind⟩
  have := smIs_floor h'
  dsimp only at this
  omega
/-- What a piece comes to, times its width. -/
def pvX (sel : Pt → Int) (p q : Pt) (fr to : Int) : Int := 2 * sel p * (to - fr) * (q.x - p.x) + (sel q - sel p) * ((to - fr) * (fr + to - 2 * p.x))
def arN (sel : Pt → Int) (ps : List Pt) (a b : Int) : Nat → Int × Int
  | 0 => (0, 1)
  | k + 1 => if min (pt ps (k + 1)).x b ≤ max (pt ps k).x a then arN sel ps a b k
    else ((arN sel ps a b k).1 * ((pt ps (k + 1)).x - (pt ps k).x) + pvX sel (pt ps k) (pt ps (k + 1)) (max (pt ps k).x a) (min (pt ps (k + 1)).x b) * (arN sel ps a b k).2, (arN sel ps a b k).2 * ((pt ps (k + 1)).x - (pt ps k).x))
theorem arN_is {sel : Pt → Int} {ps : List Pt} {a b : Int} (h : TabOk ps) : ∀ k, k + 1 ≤ ps.length → SmIs (twX sel a b (upto (fun j => (pt ps j, pt ps (j + 1))) k)) (arN sel ps a b k).1 (arN sel ps a b k).2
  | 0, _ => ⟨Int.le_refl _, Int.le_refl _, rfl⟩
  | k + 1, hk => by
    have i := arN_is (sel := sel) (a := a) (b := b) h k (by omega)
    have hlt := h.lt (k + 1) k (by omega) (by omega)
    rw [upto_succ, twX_snoc]
    unfold twStepX
    dsimp only
    unfold arN
    split
    · exact i
    · unfold twNX
      dsimp only
      generalize twX sel a b (upto (fun j => (pt ps j, pt ps (j + 1))) k) = s at i ⊢
      generalize max (pt ps k).x a = fr
      generalize min (pt ps (k + 1)).x b = to
      have j := smIs_add (u := (sel (pt ps (k + 1)) - sel (pt ps k) - (sel (pt ps (k + 1)) - sel (pt ps k)) / ((pt ps (k + 1)).x - (pt ps k).x) * ((pt ps (k + 1)).x - (pt ps k).x)) * ((to - fr) * (fr + to - 2 * (pt ps k).x))) (smIs_up (c := 2 * sel (pt ps k) * (to - fr) + (sel (pt ps (k + 1)) - sel (pt ps k)) / ((pt ps (k + 1)).x - (pt ps k).x) * ((to - fr) * (fr + to - 2 * (pt ps k).x))) i) (show 1 ≤ (pt ps (k + 1)).x - (pt ps k).x by omega)
      refine ⟨j.den, j.pos, ?_⟩
      have e := j.eq
      rw [e]
      congr 1
      unfold pvX
      generalize (sel (pt ps (k + 1)) - sel (pt ps k)) / ((pt ps (k + 1)).x - (pt ps k).x) = q
      grind
theorem pv_mono {y z y' z' x1 x2 fr to : Int} (h1 : x1 ≤ fr) (h2 : fr ≤ to) (h3 : to ≤ x2) (hy : y ≤ y') (hz : z ≤ z') :
    2 * y * (to - fr) * (x2 - x1) + (z - y) * ((to - fr) * (fr + to - 2 * x1)) ≤ 2 * y' * (to - fr) * (x2 - x1) + (z' - y') * ((to - fr) * (fr + to - 2 * x1)) := by
  have t0 : 0 ≤ (to - fr) * (fr + to - 2 * x1) := Int.mul_nonneg (by omega) (by omega)
  have t1 : (to - fr) * (fr + to - 2 * x1) ≤ (to - fr) * (2 * (x2 - x1)) := Int.mul_le_mul_of_nonneg_left (by omega) (by omega)
  have e1 : 2 * y * (to - fr) * (x2 - x1) + (z - y) * ((to - fr) * (fr + to - 2 * x1)) = y * ((to - fr) * (2 * (x2 - x1)) - (to - fr) * (fr + to - 2 * x1)) + z * ((to - fr) * (fr + to - 2 * x1)) := by grind
  have e2 : 2 * y' * (to - fr) * (x2 - x1) + (z' - y') * ((to - fr) * (fr + to - 2 * x1)) = y' * ((to - fr) * (2 * (x2 - x1)) - (to - fr) * (fr + to - 2 * x1)) + z' * ((to - fr) * (fr + to - 2 * x1)) := by grind
  rw [e1, e2]
  have m1 := Int.mul_le_mul_of_nonneg_right hy (show 0 ≤ (to - fr) * (2 * (x2 - x1)) - (to - fr) * (fr + to - 2 * x1) by omega)
  have m2 := Int.mul_le_mul_of_nonneg_right hz t0
  omega
theorem arN_le {f g : Pt → Int} {ps qs : List Pt} {a b : Int} (h : TabOk ps) (hx : ∀ j, j < ps.length → (pt qs j).x = (pt ps j).x ∧ f (pt ps j) ≤ g (pt qs j)) : ∀ k, k + 1 ≤ ps.length → (arN f ps a b k).1 ≤ (arN g qs a b k).1 ∧ (arN g qs a b k).2 = (arN f ps a b k).2 ∧ 1 ≤ (arN f ps a b k).2
  | 0, _ => ⟨Int.le_refl _, rfl, Int.le_refl _⟩
  | k + 1, hk => by
    obtain ⟨i1, i2, i3⟩ := arN_le (a := a) (b := b) h hx k (by omega)
    obtain ⟨x1, y1⟩ := hx k (by omega)
    obtain ⟨x2, y2⟩ := hx (k + 1) (by omega)
    have hlt := h.lt (k + 1) k (by omega) (by omega)
    unfold arN
    rw [x1, x2]
    split
    · exact ⟨i1, i2, i3⟩
    · dsimp only
      rw [i2]
      have p := pv_mono (x1 := (pt ps k).x) (x2 := (pt ps (k + 1)).x) (fr := max (pt ps k).x a) (to := min (pt ps (k + 1)).x b) (by omega) (by omega) (by omega) y1 y2
      unfold pvX
      rw [x1, x2]
      have m1 := Int.mul_le_mul_of_nonneg_right i1 (show 0 ≤ (pt ps (k + 1)).x - (pt ps k).x by omega)
      have m2 := Int.mul_le_mul_of_nonneg_right p (show 0 ≤ (arN f ps a b k).2 by omega)
      exact ⟨by omega, rfl, Int.mul_pos (by omega) (by omega)⟩
theorem area_lo {ps : List Pt} (h : TabOk ps) (a b : Int) : areaLo ps a b = (arN Pt.lo ps a b (ps.length - 1)).1 / (arN Pt.lo ps a b (ps.length - 1)).2 := by
  unfold areaLo areaX
  split
  · rename_i e
    rw [e]; rfl
  · exact smIs_floor (arN_is h _ (by have := h.pos; omega))
theorem area_hi {ps : List Pt} (h : TabOk ps) (a b : Int) : areaHi ps a b = -(-(arN Pt.hi ps a b (ps.length - 1)).1 / (arN Pt.hi ps a b (ps.length - 1)).2) := by
  unfold areaHi areaX
  split
  · rename_i e
    rw [e]; rfl
  · exact smIs_ceil (arN_is h _ (by have := h.pos; omega))
theorem area_in {ps qs : List Pt} (h : TabIn ps qs) (hp : TabOk ps) (a b : Int) : areaLo ps a b ≤ areaLo qs a b ∧ areaHi qs a b ≤ areaHi ps a b := by
  have hq := h.ok hp
  have p := hp.pos
  have e := h.len
  rw [area_lo hp, area_lo hq, area_hi hp, area_hi hq, e]
  obtain ⟨l1, l2, l3⟩ := arN_le (f := Pt.lo) (g := Pt.lo) (a := a) (b := b) hp (fun j hj => ⟨(h.at_ j hj).1, (h.at_ j hj).2.1⟩) (ps.length - 1) (by omega)
  obtain ⟨u1, u2, u3⟩ := arN_le (f := Pt.hi) (g := Pt.hi) (a := a) (b := b) hq (fun j hj => ⟨(h.at_ j (by omega)).1.symm, (h.at_ j (by omega)).2.2.2⟩) (ps.length - 1) (by omega)
  rw [l2, u2]
  have k1 := Int.ediv_le_ediv (show 0 < (arN Pt.lo ps a b (ps.length - 1)).2 by omega) l1
  have k2 := Int.ediv_le_ediv (show 0 < (arN Pt.hi qs a b (ps.length - 1)).2 by omega) (show -(arN Pt.hi ps a b (ps.length - 1)).1 ≤ -(arN Pt.hi qs a b (ps.length - 1)).1 by omega)
  exact ⟨k1, by omega⟩

theorem atN_in {ps qs : List Pt} (h : TabIn ps qs) (hq : TabOk qs → TabOk ps) (x : Int) : InS (atE qs x).1 (atE ps x).1 := by
  unfold atE
  by_cases hp : TabOk ps
  · have hq' := h.ok hp
    obtain ⟨e1, e2⟩ := h.ends hp.pos
    rw [if_pos hp, if_pos hq', e1, e2]
    by_cases hx : firstX ps ≤ x ∧ x ≤ lastX ps
    · rw [if_pos hx, if_pos hx]; exact at_in hp hq' h hx.1 hx.2
    · rw [if_neg hx, if_neg hx]; exact inS_refl _
  · rw [if_neg hp, if_neg (fun h => hp (hq h))]; exact inS_refl _
theorem overE_ok {ps : List Pt} {r : Rg} (h : (overE ps r).2 = 0) : TabOk ps := by
  unfold overE at h
  by_cases hp : TabOk ps
  · exact hp
  · rw [if_neg hp] at h; cases h
/-- A drawn table within another one. -/
structure DrIn (ps qs : List Pt) : Prop where
  tab : TabIn ps qs
  ok : TabOk qs → TabOk ps
theorem dErr_all {xs : List Int} {F : Int → Rg × Int} : ∀ n, dErr xs F n = 0 → ∀ j, j < n → (F (iv xs j)).2 = 0
  | 0, _, j, hj => absurd hj (Nat.not_lt_zero _)
  | n + 1, h, j, hj => by
    unfold dErr at h
    by_cases c : dErr xs F n = 0
    · rw [if_pos c] at h
      by_cases e : j = n
      · rw [e]; exact h
      · exact dErr_all n c j (by omega)
    · rw [if_neg c] at h; exact absurd h c
theorem dBig_all {xs : List Int} {F : Int → Rg × Int} : ∀ n, dBig xs F n = false → ∀ j, j < n → isPart (F (iv xs j)).1 (-1000000000) 1000000000
  | 0, _, j, hj => absurd hj (Nat.not_lt_zero _)
  | n + 1, h, j, hj => by
    unfold dBig at h
    simp only [Bool.or_eq_false_iff, Bool.not_eq_false', decide_eq_true_eq] at h
    by_cases e : j = n
    · rw [e]; exact h.2
    · exact dBig_all n h.1 j (by omega)
theorem dBig_no {xs : List Int} {F : Int → Rg × Int} : ∀ n, (∀ j, j < n → isPart (F (iv xs j)).1 (-1000000000) 1000000000) → dBig xs F n = false
  | 0, _ => rfl
  | n + 1, h => by
    unfold dBig
    rw [dBig_no n (fun j hj => h j (by omega))]
    simp only [Bool.false_or, Bool.not_eq_false', decide_eq_true_eq]
    exact h n (by omega)
theorem drawn_in {xs : List Int} {F G : Int → Rg × Int} (h : ∀ x, (F x).2 = 0 → (G x).2 = 0 ∧ InS (G x).1 (F x).1 ∧ (G x).1.lo ≤ (G x).1.hi) (h0 : (drawnE xs F).2 = 0) : (drawnE xs G).2 = 0 ∧ DrIn (drawnE xs F).1 (drawnE xs G).1 := by
  unfold drawnE at h0 ⊢
  by_cases c1 : 40 < xs.length
  · rw [if_pos c1] at h0; cases h0
  rw [if_neg c1] at h0
  by_cases c2 : dErr xs F xs.length = 0
  · rw [if_pos c2] at h0
    by_cases c3 : dBig xs F xs.length = true
    · rw [if_pos c3] at h0; cases h0
    have a := dErr_all _ c2
    have b := dBig_all _ (Bool.eq_false_iff.2 c3)
    have g := fun j hj => h _ (a j hj)
    have g2 : dErr xs G xs.length = 0 := dErr_zero _ fun j hj => (g j hj).1
    have g3 : dBig xs G xs.length = false := dBig_no _ fun j hj => by
      have p := b j hj
      obtain ⟨_, ⟨q1, q2⟩, q3⟩ := g j hj
      unfold isPart at p ⊢
      omega
    rw [if_neg c1, if_neg c1, if_pos c2, if_pos g2, if_neg c3, if_neg (by rw [g3]; decide)]
    refine ⟨rfl, ⟨by rw [upto_length, upto_length], fun j hj => ?_⟩, fun hq => ?_⟩
    · rw [upto_length] at hj
      rw [upto_pt _ _ _ hj, upto_pt _ _ _ hj]
      obtain ⟨_, ⟨q1, q2⟩, q3⟩ := g j hj
      exact ⟨rfl, q1, q3, q2⟩
    · have l1 := hq.pos
      have l2 := hq.le
      rw [upto_length] at l1 l2
      refine ⟨by rw [upto_length]; exact l1, by rw [upto_length]; exact l2, fun k hk => ?_⟩
      rw [upto_length] at hk
      have q := hq.all k (by rw [upto_length]; exact hk)
      have p := b k hk
      unfold ptOk at q ⊢
      rw [upto_pt _ _ _ hk] at q ⊢
      rw [upto_pt _ _ _ (show k - 1 < xs.length by omega)] at q ⊢
      unfold isPart at p
      unfold dPt at q ⊢
      dsimp only at q ⊢
      omega
  · rw [if_neg c2] at h0; exact absurd h0 c2
theorem partR_in {a a' b b' : Rg} {d : Int} (hd : 1 ≤ d) (ha : InS a' a) (hb : InS b' b) (h1 : 0 ≤ a.lo) (h2 : a'.lo ≤ a'.hi) (h3 : 0 ≤ b.lo) (h4 : b'.lo ≤ b'.hi) : InS (partR a' b' d) (partR a b d) := by
  obtain ⟨a1, a2⟩ := ha
  obtain ⟨b1, b2⟩ := hb
  have m1 : a.lo * b.lo ≤ a'.lo * b'.lo := Int.mul_le_mul a1 b1 h3 (by omega)
  have m2 : a'.hi * b'.hi ≤ a.hi * b.hi := Int.mul_le_mul a2 b2 (by omega) (by omega)
  have d1 := Int.ediv_le_ediv (show 0 < d by omega) m1
  have d2 := Int.ediv_le_ediv (show 0 < d by omega) (Int.neg_le_neg m2)
  unfold partR
  exact ⟨d1, by dsimp only; omega⟩
theorem partR_le {a b : Rg} {d : Int} (hd : 1 ≤ d) (h1 : 0 ≤ a.lo) (h2 : a.lo ≤ a.hi) (h3 : 0 ≤ b.lo) (h4 : b.lo ≤ b.hi) : (partR a b d).lo ≤ (partR a b d).hi := by
  have m1 : a.lo * b.lo ≤ a.hi * b.hi := Int.mul_le_mul h2 h4 h3 (by omega)
  have d1 := Int.ediv_le_ediv (show 0 < d by omega) m1
  have d2 := cdiv_ge (a.hi * b.hi) d hd
  unfold partR
  dsimp only
  omega
theorem subR_le {a b : Rg} (h : a.lo ≤ a.hi) (k : b.lo ≤ b.hi) : (subR a b).lo ≤ (subR a b).hi := by unfold subR; dsimp only; omega
theorem arms_in {S S' : Sh} (h : ShIn S S') (ok : ShipOk S) (x : Int) : TabIn (armsP S.cross.xs x) (armsP S'.cross.xs x) := by
  unfold armsP
  refine ⟨by rw [upto_length, upto_length, h.ncross], fun j hj => ?_⟩
  rw [upto_length] at hj
  rw [upto_pt _ _ _ hj, upto_pt _ _ _ (by rw [h.ncross]; exact hj)]
  obtain ⟨c1, c2⟩ := h.cross j hj
  have a := atN_in c2 (fun _ => (ok.cross j hj).2.1) x
  have b := atE_vals (crv S'.cross.xs j).arms.ps x
  exact ⟨c1, a.1, b.2.1, a.2⟩
theorem rgtF_in {S S' : Sh} (h : ShIn S S') (ok : ShipOk S) {t t' g g' : Rg} (ht : InS t' t) (ht' : t'.lo ≤ t'.hi) (hg : InS g' g) (g0 : 0 ≤ g.lo) (hg' : g'.lo ≤ g'.hi) (x : Int) (h0 : (rgtF S t g x).2 = 0) :
    (rgtF S' t' g' x).2 = 0 ∧ InS (rgtF S' t' g' x).1 (rgtF S t g x).1 ∧ (rgtF S' t' g' x).1.lo ≤ (rgtF S' t' g' x).1.hi := by
  unfold rgtF at h0 ⊢
  by_cases c : (overE (armsP S.cross.xs x) t).2 = 0
  · have tk := overE_ok c
    have ti := arms_in h ok x
    obtain ⟨o1, o2⟩ := overE_nar tk (ti.ok tk) ti ht' ht c
    have s1 := atE_lim ok.sin (by decide) (by decide) x
    have s2 := atN_in h.sin (fun _ => ok.sin.1) x
    have s3 := atE_vals S'.sin.ps x
    have g1 : 0 ≤ g'.lo := Int.le_trans g0 hg.1
    rw [if_pos c, if_pos o1]
    exact ⟨rfl, subR_in o2 (partR_in (by decide) hg s2 g0 hg' s1.1 s3.2.1), subR_le (overE_vals o1).2.1 (partR_le (by decide) g1 hg' (Int.le_trans s1.1 s2.1) s3.2.1)⟩
  · rw [if_neg c] at h0; exact absurd h0 c
theorem heelF_in {ps qs : List Pt} (h : TabIn ps qs) (ok : isTab ps 0 10000 900) {g g' : Rg} (hg : InS g' g) (g0 : 0 ≤ g.lo) (hg' : g'.lo ≤ g'.hi) (x : Int) :
    (heelF qs g' x).2 = 0 ∧ InS (heelF qs g' x).1 (heelF ps g x).1 ∧ (heelF qs g' x).1.lo ≤ (heelF qs g' x).1.hi := by
  have s1 := atE_lim ok (by decide) (by decide) x
  have s2 := atN_in h (fun _ => ok.1) x
  have s3 := atE_vals qs x
  have g1 : 0 ≤ g'.lo := Int.le_trans g0 hg.1
  exact ⟨rfl, partR_in (by decide) hg s2 g0 hg' s1.1 s3.2.1, partR_le (by decide) g1 hg' (Int.le_trans s1.1 s2.1) s3.2.1⟩
theorem mgnF_in {a a' b b' : List Pt} (ha : DrIn a a') (hb : DrIn b b') (x : Int) : (mgnF a' b' x).2 = 0 ∧ InS (mgnF a' b' x).1 (mgnF a b x).1 ∧ (mgnF a' b' x).1.lo ≤ (mgnF a' b' x).1.hi :=
  ⟨rfl, subR_in (atN_in ha.tab ha.ok x) (atN_in hb.tab hb.ok x), subR_le (atE_vals a' x).2.1 (atE_vals b' x).2.1⟩
/-- A ship with her load and all weights together, within another one. -/
structure AlIn (S : Sh) (L : La) (V : Wt) (S' : Sh) (L' : La) (V' : Wt) : Prop where
  ship : ShIn S S'
  ok : ShipOk S
  li : LoadIn L
  li' : LoadIn L'
  v : TotIs (allW S L) V
  v' : TotIs (allW S' L') V'
  sur : InS L'.sur L.sur
  shi : InS L'.shi L.shi
  wt : WtIn V' V
section
variable {S S' : Sh} {L L' : La} {V V' : Wt}
theorem AlIn.ton (h : AlIn S L V S' L' V') : InS (tonR V') (tonR V) ∧ (tonR V').lo ≤ (tonR V').hi := by
  have m := mass_in h.v'
  exact ⟨quoR_in h.wt.1 (inS_refl _) (by decide) (by decide), quoR_le m.2.1 (by decide)⟩
theorem AlIn.quo (h : AlIn S L V S' L' V') {a a' : Rg} (ha : InS a' a) : InS (quoR a' V'.mass) (quoR a V.mass) := quoR_in ha h.wt.1 (mass_in h.v).1 (mass_in h.v').2.1
theorem AlIn.rai (h : AlIn S L V S' L' V') : InS (raiR V' L') (raiR V L) := addR_in h.wt.2.2 (h.quo h.sur)
theorem AlIn.rgt (h : AlIn S L V S' L' V') (h0 : (rgtE S L V).2 = 0) : (rgtE S' L' V').2 = 0 ∧ DrIn (rgtE S L V).1 (rgtE S' L' V').1 := by
  unfold rgtE at h0 ⊢
  rw [h.ship.stat (uprOk_of h.ok)]
  exact drawn_in (fun x hx => rgtF_in h.ship h.ok h.ton.1 h.ton.2 h.rai (raiR_in h.li h.v).1 (raiR_in h.li' h.v').2.1 x hx) h0
theorem AlIn.hla (h : AlIn S L V S' L' V') (h0 : (hlaE S L V).2 = 0) : (hlaE S' L' V').2 = 0 ∧ DrIn (hlaE S L V).1 (hlaE S' L' V').1 := by
  unfold hlaE at h0 ⊢
  rw [h.ship.stat (uprOk_of h.ok)]
  exact drawn_in (fun x _ => heelF_in h.ship.shi h.ok.shi (h.quo h.shi) (arm_in h.li h.v).1 (arm_in h.li' h.v').2.1 x) h0
theorem AlIn.mgn (h : AlIn S L V S' L' V') (h0 : (mgnE S L V).2 = 0) : (mgnE S' L' V').2 = 0 ∧ DrIn (mgnE S L V).1 (mgnE S' L' V').1 := by
  unfold mgnE at h0 ⊢
  by_cases c1 : (rgtE S L V).2 = 0
  · rw [if_pos c1] at h0
    by_cases c2 : (hlaE S L V).2 = 0
    · rw [if_pos c2] at h0
      obtain ⟨a1, a2⟩ := h.rgt c1
      obtain ⟨b1, b2⟩ := h.hla c2
      rw [if_pos c1, if_pos c2, if_pos a1, if_pos b1, h.ship.stat (uprOk_of h.ok)]
      exact drawn_in (fun x _ => mgnF_in a2 b2 x) h0
    · rw [if_neg c2] at h0; exact absurd h0 c2
  · rw [if_neg c1] at h0; exact absurd h0 c1
end

theorem firstP_is (P : Int → Bool) (lo : Int) : ∀ n, (∃ k : Nat, k < n ∧ firstP P lo n = some (lo + k) ∧ P (lo + k) = true ∧ ∀ j : Nat, j < k → P (lo + j) = false) ∨ (firstP P lo n = none ∧ ∀ j : Nat, j < n → P (lo + j) = false)
  | 0 => .inr ⟨rfl, fun j hj => absurd hj (Nat.not_lt_zero _)⟩
  | n + 1 => by
    rw [firstP_succ]
    rcases firstP_is P lo n with ⟨k, h1, h2, h3, h4⟩ | ⟨h1, h2⟩
    · rw [h2]
      exact .inl ⟨k, by omega, rfl, h3, h4⟩
    · rw [h1]
      by_cases c : P (lo + n) = true
      · rw [if_pos c]
        exact .inl ⟨n, by omega, rfl, c, h2⟩
      · rw [if_neg c]
        refine .inr ⟨rfl, fun j hj => ?_⟩
        by_cases e : j = n
        · rw [e]; exact Bool.eq_false_iff.2 c
        · exact h2 j (by omega)
theorem firstP_mono {P Q : Int → Bool} (h : ∀ x, P x = true → Q x = true) {lo : Int} {n : Nat} {v : Int} (hv : firstP P lo n = some v) : ∃ u, firstP Q lo n = some u ∧ u ≤ v := by
  rcases firstP_is P lo n with ⟨k, h1, h2, h3, h4⟩ | ⟨h1, _⟩
  · rw [hv] at h2
    obtain rfl := Option.some.inj h2
    rcases firstP_is Q lo n with ⟨k', i1, i2, i3, i4⟩ | ⟨i1, i2⟩
    · refine ⟨_, i2, ?_⟩
      by_cases c : k < k'
      · have := i4 k c
        rw [h _ h3] at this
        cases this
      · omega
    · have := i2 k h1
      rw [h _ h3] at this
      cases this
  · rw [hv] at h1; cases h1
theorem lst_in {lo hi : Int} {m m' : List Pt} (h : DrIn m m') (h0 : (lstE lo hi m).2 = 0) : (lstE lo hi m').2 = 0 ∧ InS (lstE lo hi m').1 (lstE lo hi m).1 := by
  have A := fun x => atN_in h.tab h.ok x
  have l1 : ∀ x, loB m x = true → loB m' x = true := fun x hx => by
    unfold loB at hx ⊢
    have a := (A x).1
    simp only [decide_eq_true_eq] at hx ⊢
    omega
  have l2 : ∀ x, hiB m' x = true → hiB m x = true := fun x hx => by
    unfold hiB at hx ⊢
    have a := (A x).2
    simp only [decide_eq_true_eq] at hx ⊢
    omega
  have l3 : ∀ x, loB m' x = true → hiB m' x = true := fun x hx => by
    unfold loB at hx
    unfold hiB
    have a := (atE_vals m' x).2.1
    simp only [decide_eq_true_eq] at hx ⊢
    omega
  unfold lstE at h0 ⊢
  generalize (hi - lo + 1).toNat = n at *
  cases e : firstP (loB m) lo n with
  | none => rw [e] at h0; cases h0
  | some b =>
    obtain ⟨b', e1, e2⟩ := firstP_mono l1 e
    obtain ⟨a', e3, e4⟩ := firstP_mono l3 e1
    obtain ⟨a, e5, e6⟩ := firstP_mono l2 e3
    rw [e1, e3, e5]
    exact ⟨rfl, e6, e2⟩
theorem areaE_in {m m' : List Pt} (h : DrIn m m') {a b : Int} (h0 : (areaE m a b).2 = 0) : (areaE m' a b).2 = 0 ∧ (areaE m a b).1.1 ≤ (areaE m' a b).1.1 ∧ (areaE m' a b).1.2 ≤ (areaE m a b).1.2 := by
  unfold areaE at h0 ⊢
  by_cases c1 : TabOk m
  · rw [if_pos c1] at h0
    by_cases c2 : a ≤ b ∧ firstX m ≤ a ∧ b ≤ lastX m
    · obtain ⟨e1, e2⟩ := h.tab.ends c1.pos
      rw [if_pos c1, if_pos (h.tab.ok c1), e1, e2, if_pos c2, if_pos c2]
      exact ⟨rfl, area_in h.tab c1 a b⟩
    · rw [if_neg c2] at h0; cases h0
  · rw [if_neg c1] at h0; cases h0
/-- Where E is told, so is E', and within. -/
def Tells (E E' : Rg × Int) : Prop := E.2 = 0 → E'.2 = 0 ∧ InS E'.1 E.1
def Found (l l' : List Ft) : Prop := ∀ x ∈ l, ∃ y ∈ l', y.nm.toList = x.nm.toList ∧ InS y.val x.val
theorem found_nil : Found [] [] := fun x hx => by cases hx
theorem Found.app {a a' b b' : List Ft} (h : Found a a') (k : Found b b') : Found (a ++ b) (a' ++ b') := fun x hx => by
  rcases List.mem_append.1 hx with hx | hx
  · obtain ⟨y, hy, e⟩ := h x hx
    exact ⟨y, List.mem_append_left _ hy, e⟩
  · obtain ⟨y, hy, e⟩ := k x hx
    exact ⟨y, List.mem_append_right _ hy, e⟩
theorem found_one {E E' : Rg × Int} (h : Tells E E') (nm : ByteArray) : Found (fctE nm E) (fctE nm E') := fun x hx => by
  unfold fctE at hx ⊢
  by_cases c : E.2 = 0
  · rw [if_pos c] at hx
    obtain ⟨a, b⟩ := h c
    rw [if_pos a]
    obtain rfl := List.mem_singleton.1 hx
    exact ⟨_, List.mem_singleton.2 rfl, rfl, b⟩
  · rw [if_neg c] at hx; cases hx
theorem fnd_at {x : Ft} {ys : List Ft} {k : Nat} (h1 : (fv ys k).nm.toList = x.nm.toList) (h2 : InS (fv ys k).val x.val) : ∀ n, k < n → fndE x ys n = true
  | 0, h => absurd h (Nat.not_lt_zero _)
  | n + 1, h => by
    unfold fndE
    by_cases e : k = n
    · subst e
      rw [decide_eq_true h1, decide_eq_true (show x.val.lo ≤ (fv ys k).val.lo ∧ (fv ys k).val.hi ≤ x.val.hi from h2)]
      simp
    · rw [fnd_at h1 h2 n (by omega)]
      simp
theorem Found.at_ {l l' : List Ft} (h : Found l l') (i : Nat) (hi : i < l.length) : fndE (fv l i) l' l'.length = true := by
  have hm : fv l i ∈ l := by
    unfold fv
    rw [List.getD_eq_getElem?_getD, List.getElem?_eq_getElem hi]
    exact List.getElem_mem hi
  obtain ⟨y, hy, e1, e2⟩ := h _ hm
  obtain ⟨k, hk, rfl⟩ := List.getElem_of_mem hy
  have e : fv l' k = l'[k] := by
    unfold fv
    rw [List.getD_eq_getElem?_getD, List.getElem?_eq_getElem hk]
    rfl
  exact fnd_at (k := k) (by rw [e]; exact e1) (by rw [e]; exact e2) _ hk
section
variable {S S' : Sh} {L L' : La} {V V' : Wt}
theorem AlIn.over (h : AlIn S L V S' L' V') {ps qs : List Pt} (ht : TabOk ps) (hi : TabIn ps qs) : Tells (overE ps (tonR V)) (overE qs (tonR V')) := fun h0 => overE_nar ht (hi.ok ht) hi h.ton.2 h.ton.1 h0
theorem AlIn.tri (h : AlIn S L V S' L' V') : Tells (triE S L V) (triE S' L' V') := fun h0 => by
  unfold triE at h0 ⊢
  by_cases c1 : (overE S.cen.ps (tonR V)).2 = 0
  · rw [if_pos c1] at h0
    by_cases c2 : (overE S.tri.ps (tonR V)).2 = 0
    · obtain ⟨a1, a2⟩ := h.over h.ok.cen.1 h.ship.cen c1
      obtain ⟨b1, b2⟩ := h.over h.ok.tri.1 h.ship.tri c2
      have t := overE_bd h.ok.tri _ c2
      have t' := overE_vals b1
      have m := mass_in h.v'
      have c := overE_vals a1
      have al := along_in h.v'
      rw [if_pos c1, if_pos c2, if_pos a1, if_pos b1]
      refine ⟨rfl, quoR_in (prodR_in h.wt.1 (subR_in h.wt.2.1 a2) m.2.1 (subR_le al.2.1 c.2.1)) ?_ ?_ ?_⟩
      · obtain ⟨q1, q2⟩ := b2
        unfold thou
        constructor
        · dsimp only; omega
        · dsimp only; omega
      · unfold thou; dsimp only; omega
      · unfold thou; dsimp only; omega
    · rw [if_neg c2] at h0; exact absurd h0 c2
  · rw [if_neg c1] at h0; exact absurd h0 c1
theorem half_in {t t' : Rg} (h : InS t' t) : InS (halfR t') (halfR t) := quoR_in h (inS_refl _) (by decide) (by decide)
theorem AlIn.ends (h : AlIn S L V S' L' V') (h0 : (endE S L V).2 = 0) : (endE S' L' V').2 = 0 ∧ InS (endE S' L' V').1.1 (endE S L V).1.1 ∧ InS (endE S' L' V').1.2 (endE S L V).1.2 := by
  unfold endE at h0 ⊢
  by_cases c1 : (overE S.dra.ps (tonR V)).2 = 0
  · rw [if_pos c1] at h0
    by_cases c2 : (triE S L V).2 = 0
    · obtain ⟨a1, a2⟩ := h.over h.ok.dra.1 h.ship.dra c1
      obtain ⟨b1, b2⟩ := h.tri c2
      rw [if_pos c1, if_pos c2, if_pos a1, if_pos b1]
      exact ⟨rfl, addR_in a2 (half_in b2), subR_in a2 (half_in b2)⟩
    · rw [if_neg c2] at h0; exact absurd h0 c2
  · rw [if_neg c1] at h0; exact absurd h0 c1
theorem AlIn.met (h : AlIn S L V S' L' V') : Tells (metE S L V) (metE S' L' V') := fun h0 => by
  unfold metE at h0 ⊢
  by_cases c1 : (overE S.hei.ps (tonR V)).2 = 0
  · obtain ⟨a1, a2⟩ := h.over h.ok.hei.1 h.ship.hei c1
    rw [if_pos c1, if_pos a1]
    exact ⟨rfl, subR_in a2 h.rai⟩
  · rw [if_neg c1] at h0; exact absurd h0 c1
theorem AlIn.hee (h : AlIn S L V S' L' V') : Tells (cheelE S L V) (cheelE S' L' V') := fun h0 => by
  unfold cheelE at h0 ⊢
  by_cases c1 : (mgnE S L V).2 = 0
  · rw [if_pos c1] at h0
    obtain ⟨a1, a2⟩ := h.mgn c1
    obtain ⟨g1, g2⟩ := h.ship.ang (uprOk_of h.ok)
    rw [if_pos c1, if_pos a1, g1, g2]
    exact lst_in a2 h0
  · rw [if_neg c1] at h0; exact absurd h0 c1
theorem AlIn.are (h : AlIn S L V S' L' V') (most : Int) : Tells (aeE S L V most) (aeE S' L' V' most) := fun h0 => by
  unfold aeE at h0 ⊢
  by_cases c1 : (mgnE S L V).2 = 0
  · rw [if_pos c1] at h0
    obtain ⟨a1, a2⟩ := h.mgn c1
    obtain ⟨g1, g2⟩ := h.ship.ang (uprOk_of h.ok)
    rw [if_pos c1, if_pos a1, g1, g2]
    by_cases c2 : min (angHi S) most < angLo S
    · rw [if_pos c2] at h0; cases h0
    · rw [if_neg c2] at h0
      obtain ⟨r1, r2, r3⟩ := areaE_in a2 h0
      rw [if_neg c2, if_neg c2]
      exact ⟨r1, r2, r3⟩
  · rw [if_neg c1] at h0; exact absurd h0 c1
theorem AlIn.fac (h : AlIn S L V S' L' V') (most : Int) : Found (facE S L V most) (facE S' L' V' most) := by
  unfold facE
  refine Found.app (Found.app (Found.app (Found.app (Found.app (Found.app (Found.app (Found.app (Found.app found_nil ?_) ?_) ?_) ?_) ?_) ?_) ?_) ?_) ?_
  · exact found_one (fun _ => ⟨rfl, h.ton.1⟩) _
  · exact found_one (h.over h.ok.dra.1 h.ship.dra) _
  · exact found_one h.tri _
  · exact found_one (fun h0 => ⟨(h.ends h0).1, (h.ends h0).2.1⟩) _
  · exact found_one (fun h0 => ⟨(h.ends h0).1, (h.ends h0).2.2⟩) _
  · exact found_one h.met _
  · exact found_one h.hee _
  · exact found_one (h.over h.ok.flo.1 h.ship.flo) _
  · exact found_one (h.are most) _
end
theorem wv_cons (x : Wt) (l : List Wt) (k : Nat) : wv (x :: l) k = if k = 0 then x else wv l (k - 1) := by
  unfold wv
  cases k with
  | zero => rfl
  | succ k => simp
theorem wt_light {S S' : Sh} (h : ShIn S S') : WtIn S'.light S.light := ⟨h.mass, h.along, h.high⟩
theorem bnd_of {xs : List Int} {P P' : Pa} (ok : PartsOk P) (h : PaT xs P P') : Bnd P P' := by
  obtain ⟨e0, ld⟩ := load_in ok h
  have si := shIn_of ok.ship h.ship
  have ok' : PartsOk P' := ⟨si.ok ok.ship, e0, by rw [h.most]; exact ok.most0, by rw [h.most]; exact ok.most1⟩
  have hli : ∀ L L', LaIs P L → LaIs P' L' → LoadIn L → LoadIn L' := fun L L' l l' hi => by
    have s := hi.sur
    have t := hi.shi
    rw [l.sur] at s
    rw [l.shi] at t
    have s1 := ld.sur
    have t1 := ld.shi
    refine ⟨by rw [l'.ws, ld.len, ← l.ws]; exact hi.n, ?_, ?_, fun k hk => ?_⟩
    · rw [l'.sur]; unfold isPart at s ⊢; obtain ⟨⟨q1, q2⟩, q3⟩ := s1; omega
    · rw [l'.shi]; unfold isPart at t ⊢; obtain ⟨⟨q1, q2⟩, q3⟩ := t1; omega
    · rw [l'.ws, ld.len] at hk
      rw [l'.ws]
      have w := hi.w k (by rw [l.ws]; exact hk)
      rw [l.ws] at w
      obtain ⟨⟨⟨a1, a2⟩, ⟨b1, b2⟩, c1, c2⟩, d1, d2, d3⟩ := ld.ws k hk
      unfold isWt isPart at w ⊢
      omega
  have al : ∀ L L', LaIs P L → LaIs P' L' → LoadIn L → ∀ V V', TotIs (allW P.ship L) V → TotIs (allW P'.ship L') V' → AlIn P.ship L V P'.ship L' V' := fun L L' l l' hi V V' v v' => by
    have ws : WsIn (allW P.ship L) (allW P'.ship L') := by
      have one : ∀ k, k < (allW P.ship L).length → WtIn (wv (allW P'.ship L') k) (wv (allW P.ship L) k) := fun k hk => by
        unfold allW at hk ⊢
        rw [wv_cons, wv_cons]
        by_cases c : k = 0
        · rw [if_pos c, if_pos c]; exact wt_light si
        · rw [if_neg c, if_neg c, l.ws, l'.ws]
          simp only [List.length_cons, l.ws] at hk
          exact (ld.ws (k - 1) (by omega)).1
      refine ⟨?_, fun k hk => (one k hk).1, fun k hk => (one k hk).2.1, fun k hk => (one k hk).2.2⟩
      unfold allW
      rw [List.length_cons, List.length_cons, l.ws, l'.ws, ld.len]
    exact ⟨si, ok.ship, hi, hli L L' l l' hi, v, v', by rw [l.sur, l'.sur]; exact ld.sur.1, by rw [l.shi, l'.shi]; exact ld.shi.1, v.narrow v' ws⟩
  refine ⟨ok', ld.len, ld.sur.1, ld.shi.1, fun k hk => (ld.ws k hk).1, hli, fun L L' l l' hi V V' v v' i hi' => ?_, fun L L' l l' hi V V' v v' h0 => ?_⟩
  · rw [h.most]
    exact ((al L L' l l' hi V V' v v').fac P.most).at_ i hi'
  · obtain ⟨a, b⟩ := (al L L' l l' hi V V' v v').mgn h0
    refine ⟨a, b.tab.len, fun k hk => ?_⟩
    obtain ⟨c1, c2, _, c3⟩ := b.tab.at_ k hk
    exact ⟨c1, c2, c3⟩
end Go.Proofs.YteagdcgmmdiakaaGreat
