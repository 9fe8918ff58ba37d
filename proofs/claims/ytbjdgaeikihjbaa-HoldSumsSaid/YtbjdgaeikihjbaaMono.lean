/-
  Plain facts of monotone tables: their values go the same way, and the tests of inverse with them.
  Conditions: each theorem's own premises.
-/
import Derived.Test.YtbjdgaeikihjbaaInv
import Derived.Test.YtbjdgaeikihjbaaCheck
import Derived.Test.YtbjdgaeikihjbaaLine
namespace Go.Proofs.Ytbjdgaeikihjbaa
set_option linter.unusedSimpArgs false
set_option linter.unusedVariables false
open Go.RowKit

theorem TabOk.lt {ps : List Pt} (h : TabOk ps) : ∀ (j i : Nat), i < j → j < ps.length → (pt ps i).x < (pt ps j).x
  | 0, _, hij, _ => by omega
  | j + 1, i, hij, hj => by
    obtain ⟨_, _, _, _, _, h6⟩ := h.all (j + 1) hj
    rw [show j + 1 - 1 = j by omega] at h6
    rcases h6 with h6 | h6
    · omega
    · by_cases e : i = j
      · rw [e]; exact h6
      · have := TabOk.lt h j i (by omega) (by omega); omega

theorem seg_start (a b : Pt) (h : a.x < b.x) : segLo a b a.x = a.lo ∧ segHi a b a.x = a.hi := by
  unfold segLo segHi
  have e : a.x - a.x = 0 := by omega
  rw [e, Int.mul_zero, Int.mul_zero, Int.add_zero, Int.add_zero, ← Int.neg_mul, Int.mul_ediv_cancel _ (by omega), Int.mul_ediv_cancel _ (by omega), Int.neg_neg]
  exact ⟨rfl, rfl⟩
theorem seg_end (a b : Pt) (h : a.x < b.x) : segLo a b b.x = b.lo ∧ segHi a b b.x = b.hi := by
  unfold segLo segHi
  have e : b.x - b.x = 0 := by omega
  rw [e, Int.mul_zero, Int.mul_zero, Int.zero_add, Int.zero_add, ← Int.neg_mul, Int.mul_ediv_cancel _ (by omega), Int.mul_ediv_cancel _ (by omega), Int.neg_neg]
  exact ⟨rfl, rfl⟩

/-- The value at a place of a piece, whichever piece it is seen from. -/
theorem atS_seg {ps : List Pt} (hok : TabOk ps) {k : Nat} (hk : k + 1 < ps.length) {x : Int} (h1 : (pt ps k).x ≤ x) (h2 : x ≤ (pt ps (k + 1)).x) :
    atS ps x = ⟨segLo (pt ps k) (pt ps (k + 1)) x, segHi (pt ps k) (pt ps (k + 1)) x⟩ := by
  have hf : firstX ps ≤ x := by
    by_cases e : k = 0
    · subst e; exact h1
    · have := hok.lt k 0 (by omega) (by omega); show (pt ps 0).x ≤ x; omega
  have hl : x ≤ lastX ps := by
    by_cases e : k + 1 = ps.length - 1
    · show x ≤ (pt ps (ps.length - 1)).x; rw [← e]; exact h2
    · have := hok.lt (ps.length - 1) (k + 1) (by omega) (by omega); show x ≤ (pt ps (ps.length - 1)).x; omega
  obtain ⟨a1, a2, a3⟩ := kOf_spec hok hf hl
  have hlen : ¬ps.length = 1 := by omega
  have hpa : ∀ j, pieceAt ps j = (pt ps j, pt ps (j + 1)) := fun j => if_neg hlen
  have hnp : nPieces ps = ps.length - 1 := if_neg hlen
  have hk1 : kOf ps x ≤ k := by
    apply Classical.byContradiction; intro hc
    exact a2 k (by omega) (by rw [hpa]; exact ⟨h1, h2⟩)
  have hv : ∀ j, j + 1 < ps.length → pcAt (pieceAt ps j) x = ⟨segLo (pt ps j) (pt ps (j + 1)) x, segHi (pt ps j) (pt ps (j + 1)) x⟩ := fun j hj => by
    rw [hpa]
    have := hok.lt (j + 1) j (by omega) hj
    exact if_neg (fun e => by dsimp only at e; rw [e] at this; omega)
  unfold atS
  by_cases e : kOf ps x = k
  · rw [e]; exact hv k hk
  · have ha3 : x ≤ (pt ps (kOf ps x + 1)).x := by rw [hpa] at a3; exact a3.2
    generalize kOf ps x = j at *
    have ej : j + 1 = k := by
      apply Classical.byContradiction; intro hc
      have := hok.lt k (j + 1) (by omega) (by omega)
      omega
    rw [hv j (by omega)]
    subst ej
    have ex : x = (pt ps (j + 1)).x := by omega
    subst ex
    obtain ⟨p1, p2⟩ := seg_end (pt ps j) (pt ps (j + 1)) (hok.lt (j + 1) j (by omega) (by omega))
    obtain ⟨q1, q2⟩ := seg_start (pt ps (j + 1)) (pt ps (j + 1 + 1)) (hok.lt (j + 1 + 1) (j + 1) (by omega) hk)
    rw [p1, p2, q1, q2]

theorem lin_step (a b : Pt) (y z x x' : Int) (hx : x ≤ x') : (y ≤ z → lin a b y z x ≤ lin a b y z x') ∧ (z ≤ y → lin a b y z x' ≤ lin a b y z x) := by
  unfold lin
  have e1 : y * (b.x - x) = y * (b.x - x') + y * (x' - x) := by rw [← Int.mul_add]; congr 1; omega
  have e2 : z * (x' - a.x) = z * (x - a.x) + z * (x' - x) := by rw [← Int.mul_add]; congr 1; omega
  constructor
  · intro h
    have := Int.mul_le_mul_of_nonneg_right h (show 0 ≤ x' - x by omega)
    omega
  · intro h
    have := Int.mul_le_mul_of_nonneg_right h (show 0 ≤ x' - x by omega)
    omega

theorem segLo_step (a b : Pt) (x x' : Int) (h : a.x < b.x) (hx : x ≤ x') : (a.lo ≤ b.lo → segLo a b x ≤ segLo a b x') ∧ (b.lo ≤ a.lo → segLo a b x' ≤ segLo a b x) :=
  ⟨fun hl => Int.ediv_le_ediv (by omega) ((lin_step a b a.lo b.lo x x' hx).1 hl), fun hl => Int.ediv_le_ediv (by omega) ((lin_step a b a.lo b.lo x x' hx).2 hl)⟩
theorem segHi_step (a b : Pt) (x x' : Int) (h : a.x < b.x) (hx : x ≤ x') : (a.hi ≤ b.hi → segHi a b x ≤ segHi a b x') ∧ (b.hi ≤ a.hi → segHi a b x' ≤ segHi a b x) := by
  unfold segHi
  constructor
  · intro hl
    have := Int.ediv_le_ediv (c := b.x - a.x) (by omega) (Int.neg_le_neg ((lin_step a b a.hi b.hi x x' hx).1 hl))
    unfold lin at this
    omega
  · intro hl
    have := Int.ediv_le_ediv (c := b.x - a.x) (by omega) (Int.neg_le_neg ((lin_step a b a.hi b.hi x x' hx).2 hl))
    unfold lin at this
    omega

/-- One number goes a way to another. -/
def goes (s a b : Int) : Prop := 0 ≤ s * (b - a)
theorem goes_iff {s : Int} (hs : s = 1 ∨ s = -1) (a b : Int) : goes s a b ↔ (s = 1 ∧ a ≤ b) ∨ (s = -1 ∧ b ≤ a) := by
  unfold goes
  rcases hs with rfl | rfl <;> omega

theorem pt_mono {ps : List Pt} {s : Int} (hs : s = 1 ∨ s = -1) (hm : mono ps s) : ∀ (j i : Nat), i ≤ j → j < ps.length → goes s (pt ps i).lo (pt ps j).lo ∧ goes s (pt ps i).hi (pt ps j).hi
  | 0, i, hij, _ => by
    obtain rfl : i = 0 := by omega
    rw [goes_iff hs, goes_iff hs]; omega
  | j + 1, i, hij, hj => by
    by_cases e : i = j + 1
    · rw [e, goes_iff hs, goes_iff hs]; omega
    · obtain ⟨a1, a2⟩ := pt_mono hs hm j i (by omega) (by omega)
      obtain ⟨b1, b2⟩ := hm j (by omega)
      change goes s _ _ at b1
      change goes s _ _ at b2
      simp only [goes_iff hs] at *
      omega

theorem seg_goes {s : Int} (hs : s = 1 ∨ s = -1) (a b : Pt) (x x' : Int) (h : a.x < b.x) (hx : x ≤ x') (h1 : goes s a.lo b.lo) (h2 : goes s a.hi b.hi) :
    goes s (segLo a b x) (segLo a b x') ∧ goes s (segHi a b x) (segHi a b x') := by
  obtain ⟨c1, c2⟩ := segLo_step a b x x' h hx
  obtain ⟨d1, d2⟩ := segHi_step a b x x' h hx
  simp only [goes_iff hs] at *
  rcases h1 with ⟨e, h1⟩ | ⟨e, h1⟩ <;> rcases h2 with ⟨e', h2⟩ | ⟨e', h2⟩
  · exact ⟨.inl ⟨e, c1 h1⟩, .inl ⟨e, d1 h2⟩⟩
  · omega
  · omega
  · exact ⟨.inr ⟨e, c2 h1⟩, .inr ⟨e, d2 h2⟩⟩

theorem piece_of {ps : List Pt} (hok : TabOk ps) (h2 : 2 ≤ ps.length) {x : Int} (h1 : firstX ps ≤ x) (h3 : x ≤ lastX ps) : ∃ k, k + 1 < ps.length ∧ (pt ps k).x ≤ x ∧ x ≤ (pt ps (k + 1)).x := by
  obtain ⟨k, hk, hp⟩ := piece_exists hok h1 h3
  have hlen : ¬ps.length = 1 := by omega
  rw [show pieceAt ps k = (pt ps k, pt ps (k + 1)) from if_neg hlen] at hp
  rw [show nPieces ps = ps.length - 1 from if_neg hlen] at hk
  exact ⟨k, by omega, hp.1, hp.2⟩

theorem atS_mono {ps : List Pt} {s : Int} (hs : s = 1 ∨ s = -1) (ht : Tab2 ps) (hm : mono ps s) {x y : Int} (h1 : firstX ps ≤ x) (hxy : x ≤ y) (h3 : y ≤ lastX ps) :
    goes s (atS ps x).lo (atS ps y).lo ∧ goes s (atS ps x).hi (atS ps y).hi := by
  have hok := ht.ok
  obtain ⟨k, k1, k2, k3⟩ := piece_of hok ht.two h1 (show x ≤ lastX ps by omega)
  obtain ⟨l, l1, l2, l3⟩ := piece_of hok ht.two (show firstX ps ≤ y by omega) h3
  have hklt := hok.lt (k + 1) k (by omega) k1
  have hllt := hok.lt (l + 1) l (by omega) l1
  obtain ⟨g1, g2⟩ := pt_mono hs hm (k + 1) k (by omega) k1
  obtain ⟨m1, m2⟩ := pt_mono hs hm (l + 1) l (by omega) l1
  by_cases e : k = l
  · subst e
    rw [atS_seg hok k1 k2 k3, atS_seg hok k1 l2 l3]
    exact seg_goes hs _ _ x y hklt hxy g1 g2
  · by_cases e2 : k < l
    · rw [atS_seg hok k1 k2 k3, atS_seg hok l1 l2 l3]
      obtain ⟨n1, n2⟩ := pt_mono hs hm l (k + 1) (by omega) (by omega)
      obtain ⟨a1, a2⟩ := seg_goes hs _ _ x _ hklt k3 g1 g2
      obtain ⟨b1, b2⟩ := seg_goes hs _ _ _ y hllt l2 m1 m2
      obtain ⟨p1, p2⟩ := seg_end _ _ hklt
      obtain ⟨q1, q2⟩ := seg_start _ _ hllt
      rw [p1] at a1; rw [p2] at a2; rw [q1] at b1; rw [q2] at b2
      simp only [goes_iff hs] at *
      omega
    · have exy : x = y := by
        by_cases e3 : l + 1 = k
        · subst e3; omega
        · have := hok.lt k (l + 1) (by omega) (by omega); omega
      rw [exy, goes_iff hs, goes_iff hs]; omega

theorem atE_in {ps : List Pt} (hok : TabOk ps) {x : Int} (h1 : firstX ps ≤ x) (h2 : x ≤ lastX ps) : (atE ps x).1 = atS ps x := by
  unfold atE; rw [if_pos hok, if_pos ⟨h1, h2⟩]

/-- The tests of a table that falls, and of one that rises. -/
theorem ways_down {ps : List Pt} (ht : Tab2 ps) (hm : mono ps (-1)) (v : Rg) : Ways (moreB ps v) (lessB ps v) (firstX ps) (lastX ps) := by
  constructor
  · intro x y h1 h2 h3 hx
    obtain ⟨_, a2⟩ := atS_mono (.inr rfl) ht hm h1 h2 h3
    rw [goes_iff (.inr rfl)] at a2
    simp only [lessB, decide_eq_true_eq] at hx ⊢
    rw [atE_in ht.ok (by omega) (by omega)] at hx ⊢
    omega
  · intro x y h1 h2 h3 hx
    obtain ⟨a1, _⟩ := atS_mono (.inr rfl) ht hm h1 h2 h3
    rw [goes_iff (.inr rfl)] at a1
    simp only [moreB, decide_eq_true_eq] at hx ⊢
    rw [atE_in ht.ok (by omega) (by omega)] at hx ⊢
    omega
theorem ways_up {ps : List Pt} (ht : Tab2 ps) (hm : mono ps 1) (v : Rg) : Ways (lessB ps v) (moreB ps v) (firstX ps) (lastX ps) := by
  constructor
  · intro x y h1 h2 h3 hx
    obtain ⟨a1, _⟩ := atS_mono (.inl rfl) ht hm h1 h2 h3
    rw [goes_iff (.inl rfl)] at a1
    simp only [moreB, decide_eq_true_eq] at hx ⊢
    rw [atE_in ht.ok (by omega) (by omega)] at hx ⊢
    omega
  · intro x y h1 h2 h3 hx
    obtain ⟨_, a2⟩ := atS_mono (.inl rfl) ht hm h1 h2 h3
    rw [goes_iff (.inl rfl)] at a2
    simp only [lessB, decide_eq_true_eq] at hx ⊢
    rw [atE_in ht.ok (by omega) (by omega)] at hx ⊢
    omega

end Go.Proofs.Ytbjdgaeikihjbaa
