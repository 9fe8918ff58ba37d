/-
  The reference's value of a curve at a place.
  Conditions: each theorem's own premises.
-/
import Derived.Test.YtbjdgaeikihjbaaMadh
namespace Go.Proofs.Ytbjdgaeikihjbaa
set_option linter.unusedSimpArgs false
set_option linter.unusedVariables false
open Go.RowKit
set_option maxRecDepth 100000
set_option maxHeartbeats 4000000
attribute [local go_sem] Instr.field asAgg Soft.upon Soft.BW.cell_if Soft.BW.frozen_if Soft.cell_alloc_if Soft.frozen_alloc_if

/-- The value of a curve at a place: a numerator and a denominator. -/
def valN (ps : List Pt) (l : List Int) (x : Int) : Int := iv l (kOf ps x) * ((pt ps (kOf ps x + 1)).x - x) + iv l (kOf ps x + 1) * (x - (pt ps (kOf ps x)).x)
def valD (ps : List Pt) (x : Int) : Int := (pt ps (kOf ps x + 1)).x - (pt ps (kOf ps x)).x

/-- The piece that a place of a table of two points or more lies on. -/
theorem kOf_two {ps : List Pt} (h : Tab2 ps) {x : Int} (h1 : firstX ps ≤ x) (h2 : x ≤ lastX ps) :
    kOf ps x + 1 < ps.length ∧ (∀ j, j < kOf ps x → (pt ps (j + 1)).x < x) ∧ (pt ps (kOf ps x)).x ≤ x ∧ x ≤ (pt ps (kOf ps x + 1)).x := by
  obtain ⟨a1, a2, a3⟩ := kOf_spec h.ok h1 h2
  have htwo := h.two
  have hlen : ¬ps.length = 1 := by omega
  have hpa : ∀ j, pieceAt ps j = (pt ps j, pt ps (j + 1)) := fun j => if_neg hlen
  rw [show nPieces ps = ps.length - 1 from if_neg hlen] at a1
  rw [hpa] at a3
  have key : ∀ j, j < kOf ps x → (pt ps (j + 1)).x < x := by
    intro j
    induction j with
    | zero =>
      intro hj
      have := a2 0 hj
      rw [hpa] at this
      have h3 : (pt ps 0).x ≤ x := h1
      apply Classical.byContradiction
      intro hc
      exact this ⟨h3, by dsimp only; omega⟩
    | succ j ih =>
      intro hj
      have := a2 (j + 1) hj
      rw [hpa] at this
      have h3 := ih (by omega)
      apply Classical.byContradiction
      intro hc
      exact this ⟨by dsimp only; omega, by dsimp only; omega⟩
  exact ⟨by omega, key, a3.1, a3.2⟩

theorem R2_Value (t : Tb) (s : Is) (x : Int) (w : World) (ht : t.At w) (hs : s.At w) (hok : Tab2 t.ps) (hl : CurveIn t.ps s.xs) (hx : firstX t.ps ≤ x ∧ x ≤ lastX t.ps) :
    Calls Try.prog 22 #[.agg #[.slice (t).p (t).n (t).c], .slice s.p s.n s.c, .int .i64 x] w fun e w' => e = .returned (.tuple #[.int .i64 (valN t.ps s.xs x), .int .i64 (valD t.ps x)]) ∧ Below w.heap.size w w' := by
  obtain ⟨p, n, c, ps⟩ := t
  obtain ⟨p', n', c', xs⟩ := s
  dsimp only at *
  obtain ⟨k1, k2, k3, k4⟩ := kOf_two hok hx.1 hx.2
  unfold valN valD
  generalize hK : kOf ps x = K at *
  clear hK
  have ht' := ht
  obtain ⟨h1, h2, h3, h4, h5⟩ := ht'
  obtain ⟨g1, g2, g3, g4, g6, g5⟩ := hs
  dsimp only at *
  have htwo := hok.two
  have hle := hok.ok.le
  have hcl := hl.len
  obtain ⟨b, o, rfl, hb, hc⟩ := h5 (by omega)
  obtain ⟨b', o', rfl, hb', hc'⟩ := g5 (by omega)
  have HOK := Lib.hid hok.ok
  have HL := Lib.hid h1
  have HC := Lib.hid hc
  have HC' := Lib.hid hc'
  have HK2 := Lib.hid k2
  have HIN := Lib.hid hl.at_
  have hnn : n = n' := by omega
  have hn1 : K + 1 < n := by omega
  have hn3 : K + 1 < n' := by omega
  have hn2 : n ≤ 40 := by omega
  obtain ⟨x1, x2⟩ := hx
  clear hok h1 hc hc' h5 g5 g1 htwo hle hcl hl k2 hnn g6 x1 x2
  go_enter Try.func22, Try.ntmps22
  go_wp2_with fail
  go_loopw [8, 9, 10] (fun i _ _ wr => ∃ (k : Nat), i = .int .i64 ((k : Int) + 1) ∧ k ≤ K ∧ Below (w.heap.size + 1) (w.alloc (.cells #[.slice (some ⟨b, o, none⟩) n c] 33)) wr) (fun i _ _ _ => K + 2 - (intOf i).toNat)
  case atStart => exact ⟨0, rfl, by omega, Below.refl _ _⟩
  case round =>
    obtain ⟨k, rfl, hk, hB⟩ := hrel
    have hsz := hB.size
    simp at hsz
    have hbox : wr.cell? ⟨w.heap.size, 0, none⟩ = some (.slice (some ⟨b, o, none⟩) n c) := by
      rw [hB.cell (by simp)]; simp
    have l0 := Soft.LtH.mk (b := w.heap.size) (w := wr) (by omega)
    have lb := Soft.LtH.mk (b := b) (w := wr) (by omega)
    have lb' := Soft.LtH.mk (b := b') (w := wr) (by omega)
    have hbel : Below w.heap.size w wr := (((Below.refl _ _).alloc (Nat.le_refl _) _).trans (hB.mono (by omega)))
    have HBEL := Lib.hid hbel
    obtain ⟨c1, _, _⟩ := HC.out k (by omega)
    obtain ⟨c2, _, _⟩ := HC.out (k + 1) (by omega)
    rw [← hbel.cell (p := ⟨b, o + k * 3, none⟩) hb] at c1
    rw [← hbel.cell (p := ⟨b, o + (k + 1) * 3, none⟩) hb] at c2
    have HB := Lib.hid hB
    have i1 : (k : Int) + 1 < n := by omega
    by_cases hlt : k < K
    · have hlt2 := HK2.out k hlt
      have HLT := Lib.hid hlt2
      clear hB hbel
      generalize (pt ps (k + 1)).x = u2 at *
      generalize (pt ps k).x = u1 at *
      go_wp2_with fail
      all_goals
        go_roundw
        case rel => exact ⟨k + 1, by simp, by omega, HB.out⟩
        case measure => simp [intOf]; omega
    · obtain rfl : k = K := by omega
      have d1 := HC'.out k (by omega)
      have d2 := HC'.out (k + 1) (by omega)
      rw [← hbel.cell (p := ⟨b', o' + k, none⟩) hb'] at d1
      rw [← hbel.cell (p := ⟨b', o' + (k + 1), none⟩) hb'] at d2
      obtain ⟨q1, q2, q3, q4, q5, _⟩ := HOK.out.all k (by have := HL.out; omega)
      obtain ⟨r1, r2, r3, r4, r5, r6⟩ := HOK.out.all (k + 1) (by have := HL.out; omega)
      have i3 := HIN.out k (by have := HL.out; omega)
      have i4 := HIN.out (k + 1) (by have := HL.out; omega)
      have m1 := mul_bd (y := iv xs k) 1000000000 1000000 1000000000000000 (by decide) (by omega) (by omega) (show 0 ≤ (pt ps (k + 1)).x - x by omega) (show (pt ps (k + 1)).x - x ≤ 1000000 by omega)
      have m2 := mul_bd (y := iv xs (k + 1)) 1000000000 1000000 1000000000000000 (by decide) (by omega) (by omega) (show 0 ≤ x - (pt ps k).x by omega) (show x - (pt ps k).x ≤ 1000000 by omega)
      obtain ⟨m11, m12⟩ := m1
      obtain ⟨m21, m22⟩ := m2
      clear hB hbel i3 i4 q3 q4 q5 r3 r4 r5 r6 hlt
      generalize hu2 : (pt ps (k + 1)).x = u2 at *
      generalize hu1 : (pt ps k).x = u1 at *
      generalize hv1 : iv xs k = v1 at *
      generalize hv2 : iv xs (k + 1) = v2 at *
      have HU1 := Lib.hid hu1; have HU2 := Lib.hid hu2; have HV1 := Lib.hid hv1; have HV2 := Lib.hid hv2
      clear hu1 hu2 hv1 hv2
      go_wp2_with fail
      go_quiet (fail)
      go_wp2
      go_ret2
      refine ⟨by simp [HU1.out, HU2.out, HV1.out, HV2.out], ?_⟩
      exact HBEL.out.trans (below_drewN (Below.refl _ _) _)

end Go.Proofs.Ytbjdgaeikihjbaa
