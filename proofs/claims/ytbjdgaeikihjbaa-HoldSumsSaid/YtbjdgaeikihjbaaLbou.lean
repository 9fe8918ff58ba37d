/-
  What is told of a fill bounds every curve within a hold's tables: the plain law.
  Conditions: each theorem's own premises.
-/
import Derived.Test.YtbjdgaeikihjbaaLpou
import Derived.Test.YtbjdgaeikihjbaaTold
namespace Go.Proofs.Ytbjdgaeikihjbaa
set_option linter.unusedSimpArgs false
set_option linter.unusedVariables false
open Go.RowKit

/-- What a fill with an ullage is. -/
theorem fill_free {h : Ho} {f : Fi} (h1 : FillIn h f) (h3 : 3 ≤ f.state) : (3 ≤ f.state ∧ f.state ≤ 5) ∧ isPart f.ull (firstX h.vol.ps) (lastX h.vol.ps) ∧ isDen f.den := by
  obtain ⟨_, ⟨e, _⟩ | ⟨e, _⟩ | ⟨e, hp, hd⟩⟩ := h1
  · omega
  · omega
  · exact ⟨e, hp, hd⟩

theorem overE_eq {ps : List Pt} (ht : Tab2 ps) {r : Rg} (h : isPart r (firstX ps) (lastX ps)) : (overE ps r).1 = overS ps r := by
  obtain ⟨p1, p2, p3⟩ := h
  have hends := ht.ok.ends
  unfold overE
  rw [if_pos ht.ok, if_pos (by unfold rangeErr; rw [if_neg (by omega)]), if_pos ⟨by omega, by omega⟩]

/-- n / d lies within a range. -/
def WithinS (r : Rg) (n d : Int) : Prop := r.lo * d ≤ n ∧ n ≤ r.hi * d
instance (r : Rg) (n d : Int) : Decidable (WithinS r n d) := inferInstanceAs (Decidable (_ ∧ _))

theorem curve_over {ps : List Pt} (ht : Tab2 ps) {r : Rg} (h : isPart r (firstX ps) (lastX ps)) {l : List Int} (hl : CurveIn ps l) {x : Int} (hx : r.lo ≤ x ∧ x ≤ r.hi) : WithinS (overE ps r).1 (valN ps l x) (valD ps x) := by
  rw [overE_eq ht h]
  obtain ⟨p1, p2, p3⟩ := h
  obtain ⟨c1, c2, c3⟩ := val_in ht hl (x := x) (by omega) (by omega)
  obtain ⟨o1, o2⟩ := over_has ht p1 p3 hx.1 hx.2
  exact ⟨Int.le_trans (Int.mul_le_mul_of_nonneg_right o1 (by omega)) c2, Int.le_trans c3 (Int.mul_le_mul_of_nonneg_right o2 (by omega))⟩

theorem weigh_has {v den : Rg} {n N q : Int} (h0 : 0 ≤ v.lo) (hw : WithinS v N n) (hn : 1 ≤ n) (hN : 0 ≤ N) (hv : 0 ≤ v.hi) (hd : 0 ≤ den.lo) (hq : den.lo ≤ q ∧ q ≤ den.hi) : WithinS (weighS v den) (N * q) (1000 * n) := by
  obtain ⟨w1, w2⟩ := hw
  have e1 := Int.ediv_mul_le (v.lo * den.lo) (show (1000 : Int) ≠ 0 by omega)
  have e2 := Int.ediv_mul_le (-(v.hi * den.hi)) (show (1000 : Int) ≠ 0 by omega)
  unfold weighS WithinS
  dsimp only
  constructor
  · have a1 : v.lo * den.lo / 1000 * 1000 * n ≤ v.lo * den.lo * n := Int.mul_le_mul_of_nonneg_right e1 (by omega)
    have a2 : v.lo * den.lo * n = v.lo * n * den.lo := by rw [Int.mul_assoc, Int.mul_comm den.lo n, ← Int.mul_assoc]
    have a3 : v.lo * n * den.lo ≤ N * den.lo := Int.mul_le_mul_of_nonneg_right w1 hd
    have a4 : N * den.lo ≤ N * q := Int.mul_le_mul_of_nonneg_left hq.1 hN
    rw [← Int.mul_assoc]
    omega
  · have a1 : -(v.hi * den.hi) / 1000 * 1000 * n ≤ -(v.hi * den.hi) * n := Int.mul_le_mul_of_nonneg_right e2 (by omega)
    have a2 : -(v.hi * den.hi) * n = -(v.hi * n * den.hi) := by rw [Int.neg_mul, Int.mul_assoc, Int.mul_comm den.hi n, ← Int.mul_assoc]
    have a3 : N * q ≤ v.hi * n * q := Int.mul_le_mul_of_nonneg_right w2 (by omega)
    have a4 : v.hi * n * q ≤ v.hi * n * den.hi := Int.mul_le_mul_of_nonneg_left hq.2 (Int.mul_nonneg hv (by omega))
    rw [← Int.mul_assoc, Int.neg_mul, Int.neg_mul]
    omega

/-- A range of numbers from 0 to a milliard, times a small number. -/
theorem small_mul {a n : Int} (h1 : 0 ≤ a) (h2 : a ≤ 3000000000) (h3 : 0 ≤ n) (h4 : n ≤ 100000) : I64 (a * n) := by
  have := Int.mul_nonneg h1 h3
  have := Int.mul_le_mul h2 h4 h3 (by omega)
  exact ⟨by omega, by omega⟩
theorem weigh_in {v den : Rg} (hv : RgIn v 0 1000000000) (hd : RgIn den 0 2000) : RgIn (weighS v den) 0 2000000000 := by
  obtain ⟨a1, a2, a3⟩ := hv
  obtain ⟨b1, b2, b3⟩ := hd
  have m1 := Int.mul_nonneg a1 b1
  have m2 : v.lo * den.lo ≤ v.hi * den.hi := Int.mul_le_mul a2 b2 b1 (by omega)
  have m3 : v.hi * den.hi ≤ 1000000000 * 2000 := Int.mul_le_mul a3 b3 (by omega) (by omega)
  unfold weighS
  exact ⟨by dsimp only; omega, by dsimp only; omega, by dsimp only; omega⟩

/-- What is told in the law's case. -/
structure BoundsOk (h : Ho) (f : Fi) (v n m o z p q : Int) : Prop where
  e : fillErr h f = 0
  a : WithinS (volE h f) v n
  b : WithinS (massE h f) (v * q) (1000 * n)
  c : WithinS (momE h f) m o
  g : WithinS (heelE h f) (m * q) (1000 * o)
  i : WithinS (heightE h f) z p
  w : wtE h f = ⟨massE h f, h.along, heightE h f⟩
  ra : RgIn (volE h f) 0 1000000000
  rb : RgIn (massE h f) 0 2000000000
  rc : RgIn (momE h f) 0 1000000000
  rg : RgIn (heelE h f) 0 2000000000
  ri : RgIn (heightE h f) 0 1000000000
  vn : (0 ≤ v ∧ v ≤ 800000) ∧ (1 ≤ n ∧ n ≤ 40)
  mo : (0 ≤ m ∧ m ≤ 800000) ∧ (1 ≤ o ∧ o ≤ 40)
  zp : (0 ≤ z ∧ z ≤ 800000) ∧ (1 ≤ p ∧ p ≤ 40)

theorem bounds_plain {r : Rw} {h : Ho} (hm : HoldMade r h) {f : Fi} (h1 : FillIn h f) (h3 : 3 ≤ f.state) {u : Int} (hu : f.ull.lo ≤ u ∧ u ≤ f.ull.hi)
    {l0 l1 l2 : List Int} (hl0 : CurveIn h.vol.ps l0) (hl1 : CurveIn h.mom.ps l1) (hl2 : CurveIn h.hei.ps l2) {q : Int} (hq : f.den.lo ≤ q ∧ q ≤ f.den.hi) {m : Int} (hmm : m = if f.state = 3 then valN h.mom.ps l1 u else 0) :
    BoundsOk h f (valN h.vol.ps l0 u) (valD h.vol.ps u) m (valD h.mom.ps u) (valN h.hei.ps l2 u) (valD h.hei.ps u) q := by
  have hok := hm.ok
  obtain ⟨t1, ⟨t2, s2⟩, ⟨t3, s3⟩⟩ := hok.tabs
  obtain ⟨hs, hp, hd⟩ := fill_free h1 h3
  have hE := fillErr_ok hok h1
  have hp2 : isPart f.ull (firstX h.mom.ps) (lastX h.mom.ps) := by rw [s2.1, s2.2]; exact hp
  have hp3 : isPart f.ull (firstX h.hei.ps) (lastX h.hei.ps) := by rw [s3.1, s3.2]; exact hp
  obtain ⟨p1, p2, p3⟩ := hp
  obtain ⟨q1, q2, q3⟩ := hd
  have v1 := val_bd hm.vol hm.xs.1 t1 hl0 (x := u) (by omega) (by omega)
  have v2 := val_bd hm.mom hm.xs.1 t2 hl1 (x := u) (by have := hp2.1; omega) (by have := hp2.2.2; omega)
  have v3 := val_bd hm.hei hm.xs.1 t3 hl2 (x := u) (by have := hp3.1; omega) (by have := hp3.2.2; omega)
  have eV : volE h f = (overE h.vol.ps f.ull).1 := by unfold volE volS fillS; rw [if_pos hE, if_neg (by omega), if_pos (by omega)]
  have eZ : heightE h f = (overE h.hei.ps f.ull).1 := by unfold heightE heightS fillS; rw [if_pos hE, if_neg (by omega), if_pos (by omega)]
  have eM : momE h f = momS h f := if_pos hE
  have eB : massE h f = weighS (volE h f) f.den := by unfold massE massS volE; rw [if_pos hE, if_pos hE]
  have eG : heelE h f = weighS (momE h f) f.den := by unfold heelE heelS momE; rw [if_pos hE, if_pos hE]
  have w1 := curve_over t1 ⟨p1, p2, p3⟩ hl0 hu
  have w3 := curve_over t3 hp3 hl2 hu
  have r1 : RgIn (volE h f) 0 1000000000 := by rw [eV]; exact overE_pos t1 _
  have r3 : RgIn (heightE h f) 0 1000000000 := by rw [eZ]; exact overE_pos t3 _
  have r2 : RgIn (momE h f) 0 1000000000 := by rw [eM]; exact momS_in hok f
  have w2 : WithinS (momE h f) m (valD h.mom.ps u) ∧ 0 ≤ m ∧ m ≤ 800000 := by
    rw [eM, hmm]
    unfold momS
    rw [if_neg (by omega), if_neg (by omega)]
    by_cases e : f.state = 3
    · rw [if_pos e, if_pos e]
      exact ⟨curve_over t2 hp2 hl1 hu, by omega, by omega⟩
    · rw [if_neg e, if_neg e]
      exact ⟨⟨by simp, by simp⟩, by omega, by omega⟩
  have hdn : RgIn f.den 0 2000 := ⟨by omega, by omega, by omega⟩
  rw [← eV] at w1
  rw [← eZ] at w3
  refine ⟨hE, w1, ?_, w2.1, ?_, w3, ?_, r1, ?_, r2, ?_, r3, by omega, by omega, by omega⟩
  · rw [eB]; exact weigh_has r1.a w1 (by omega) (by omega) (by have := r1.a; have := r1.b; omega) (by omega) hq
  · rw [eG]; exact weigh_has r2.a w2.1 (by omega) (by omega) (by have := r2.a; have := r2.b; omega) (by omega) hq
  · unfold wtE massE heightE wtS; rw [if_pos hE, if_pos hE, if_pos hE]
  · rw [eB]; exact weigh_in r1 hdn
  · rw [eG]; exact weigh_in r2 hdn

end Go.Proofs.Ytbjdgaeikihjbaa
