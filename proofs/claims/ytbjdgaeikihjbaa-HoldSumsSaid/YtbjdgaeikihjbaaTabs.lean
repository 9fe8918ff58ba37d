/-
  Package hold's look at ranges and tables: isWithin, isPart, isDensity, domain, areTables, isMonotone.
  Conditions: each theorem's own premises.
-/
import Derived.Test.YtbjdgaeikihjbaaOver
namespace Go.Proofs.Ytbjdgaeikihjbaa
set_option linter.unusedSimpArgs false
set_option linter.unusedVariables false
open Go.RowKit
attribute [local go_sem] Soft.upon Soft.BW.cell_if Soft.BW.frozen_if Soft.cell_alloc_if Soft.frozen_alloc_if

theorem hold_isWithin (n lo hi : Int) (w : World) (v : Bool) (hv : v = decide (lo ≤ n ∧ n ≤ hi)) :
    Calls Try.prog 88 #[.int .i64 n, .int .i64 lo, .int .i64 hi] w fun e w' => e = .returned (.bool v) ∧ w' = w := by
  have HV := Lib.hid hv; clear hv
  go_enter Try.func88, Try.ntmps88
  go_wp2
  all_goals
    go_ret
    refine ⟨ret_bool ?_, rfl⟩
    rw [HV.out, Bool.eq_iff_iff]
    simp
    omega

def isPart (r : Rg) (lo hi : Int) : Prop := lo ≤ r.lo ∧ r.lo ≤ r.hi ∧ r.hi ≤ hi
instance (r : Rg) (lo hi : Int) : Decidable (isPart r lo hi) := inferInstanceAs (Decidable (_ ∧ _ ∧ _))
def isDen (r : Rg) : Prop := isPart r 100 2000
instance (r : Rg) : Decidable (isDen r) := inferInstanceAs (Decidable (isPart _ _ _))

theorem hold_isPart (r : Rg) (lo hi : Int) (w : World) (v : Bool) (hv : v = decide (isPart r lo hi)) :
    Calls Try.prog 112 #[.agg #[.int .i64 (r).lo, .int .i64 (r).hi], .int .i64 lo, .int .i64 hi] w fun e w' => e = .returned (.bool v) ∧ Below w.heap.size w w' := by
  have HV := Lib.hid hv; clear hv
  go_enter Try.func112, Try.ntmps112
  go_wp2
  all_goals
    go_ret
    refine ⟨ret_bool ?_, ?_⟩
    · rw [HV.out, Bool.eq_iff_iff]
      simp only [decide_eq_true_eq, Bool.false_eq_true]
      unfold isPart
      first | omega | (simp only [false_iff]; omega)
    · (repeat (first | with_reducible exact bel_refl _ | with_reducible refine bel_alloc ?_ _ | with_reducible refine bel_bw _ ?_ | with_reducible refine bel_drew ?_ | with_reducible refine bel_drewN _ ?_ | ((with_reducible refine bel_set ?_ ?_ _); rotate_left; focus (first | (simp; done) | omega | (simp; omega))) | refine bel_step ?_ (by with_reducible assumption)))

theorem hold_isDensity (r : Rg) (w : World) (v : Bool) (hv : v = decide (isDen r)) :
    Calls Try.prog 111 #[.agg #[.int .i64 (r).lo, .int .i64 (r).hi]] w fun e w' => e = .returned (.bool v) ∧ Below w.heap.size w w' := by
  have HV := Lib.hid (show v = decide (isPart r 100 2000) from hv); clear hv
  go_enter Try.func111, Try.ntmps111
  go_wp2_with (go_at_call 112; (with_reducible refine (hold_isPart r _ _ _ v HV.out).mono ?_); rintro e w_ ⟨rfl, hb_⟩; obtain ⟨y1, rfl⟩ := Soft.BW.mk hb_; clear hb_)
  go_ret
  refine ⟨rfl, ?_⟩
  (repeat (first | with_reducible exact bel_refl _ | with_reducible refine bel_alloc ?_ _ | with_reducible refine bel_bw _ ?_ | with_reducible refine bel_drew ?_ | with_reducible refine bel_drewN _ ?_ | ((with_reducible refine bel_set ?_ ?_ _); rotate_left; focus (first | (simp; done) | omega | (simp; omega))) | refine bel_step ?_ (by with_reducible assumption)))

theorem hold_domain (t : Tb) (w : World) (ht : t.At w) (hn : 1 ≤ t.n) :
    Calls Try.prog 101 #[.agg #[.slice (t).p (t).n (t).c]] w fun e w' => e = .returned (.tuple #[.int .i64 (firstX t.ps), .int .i64 (lastX t.ps)]) ∧ Below w.heap.size w w' := by
  have e0 := isIn_len ht
  unfold firstX lastX
  rw [← e0]
  obtain ⟨p, n, c, ps⟩ := t
  obtain ⟨h1, h2, h3, h4, h5⟩ := ht
  obtain ⟨b, o, rfl, hb, hc⟩ := h5 (by dsimp only at *; omega)
  dsimp only at *
  have c0 := (hc 0 (by omega)).1
  have c1 := (hc (n - 1) (by omega)).1
  have H1 := Lib.hid h1; clear h1 hc h5 e0
  generalize pt ps 0 = p0 at *
  generalize pt ps (n - 1) = p1 at *
  simp only [Nat.zero_mul, Nat.add_zero] at c0
  have := Soft.LtH.mk (w := w) hb
  have i0 : 0 < n := by omega
  have i1 : (n : Int) - 1 < n := by omega
  have i2 : (1 : Int) ≤ n := by omega
  have i3 : ((n : Int) - 1).toNat = n - 1 := by omega
  go_enter Try.func101, Try.ntmps101
  go_wp2
  go_quiet (fail)
  go_wp2
  go_ret2
  refine ⟨rfl, ?_⟩
  (repeat (first | with_reducible exact bel_refl _ | with_reducible refine bel_alloc ?_ _ | with_reducible refine bel_bw _ ?_ | with_reducible refine bel_drew ?_ | with_reducible refine bel_drewN _ ?_ | ((with_reducible refine bel_set ?_ ?_ _); rotate_left; focus (first | (simp; done) | omega | (simp; omega))) | refine bel_step ?_ (by with_reducible assumption)))

/-- Whether some point lies below 0. -/
def hasNeg (ps : List Pt) : Prop := ∃ k, k < ps.length ∧ (pt ps k).lo < 0

theorem isNeg (p : Pt) (w : World) (v : Bool) (hv : v = decide (p.lo < 0)) :
    Calls Try.prog 146 #[.agg #[.int .i64 p.x, .int .i64 p.lo, .int .i64 p.hi]] w fun e w' => e = .returned (.bool v) ∧ Below w.heap.size w w' := by
  have HV := Lib.hid hv; clear hv
  go_enter Try.func146, Try.ntmps146
  go_wp2
  all_goals
    go_ret
    refine ⟨ret_bool HV.out.symm, ?_⟩
    (repeat (first | with_reducible exact bel_refl _ | with_reducible refine bel_alloc ?_ _ | with_reducible refine bel_bw _ ?_ | with_reducible refine bel_drew ?_ | with_reducible refine bel_drewN _ ?_ | ((with_reducible refine bel_set ?_ ?_ _); rotate_left; focus (first | (simp; done) | omega | (simp; omega))) | refine bel_step ?_ (by with_reducible assumption)))


set_option maxHeartbeats 1000000 in
/-- The first point below 0: its number is m. -/
theorem indexNeg_yes (t : Tb) (w : World) (ht : t.At w) (m : Nat) (hm : m < t.ps.length) (hneg : (pt t.ps m).lo < 0) (hpos : ∀ j, j < m → 0 ≤ (pt t.ps j).lo) :
    Calls Try.prog 159 #[.slice (t).p (t).n (t).c, .func (.func 146) #[] #[]] w fun e w' => e = .returned (.int .i64 m) ∧ Below w.heap.size w w' := by
  obtain ⟨p, n, c, ps⟩ := t
  have ht' := ht
  obtain ⟨h1, h2, h3, h4, h5⟩ := ht'
  dsimp only at *
  obtain ⟨b, o, rfl, hb, hc⟩ := h5 (by omega)
  have HM := Lib.hid hm; clear hm
  have HP := Lib.hid hpos; clear hpos
  have HN := Lib.hid hneg; clear hneg
  have HL := Lib.hid h1; clear h1 h5 hc hb
  go_enter Try.func159, Try.ntmps159
  go_wp2_with fail
  go_loopw [8] (fun i wr => ∃ k : Nat, k ≤ m ∧ i = .int .i64 k ∧ Below w.heap.size w wr) (fun i _ => m + 1 - (intOf i).toNat)
  case atStart => exact ⟨0, Nat.zero_le _, rfl, Below.refl _ _⟩
  case round =>
    obtain ⟨k, hk, rfl, hB⟩ := hrel
    have hlt : k < n := by have := HM.out; have := HL.out; omega
    have htr := ht.same hB
    obtain ⟨_, _, _, _, h5⟩ := htr
    obtain ⟨b', o', e, hb, hc⟩ := h5 (by dsimp only; omega)
    cases e
    dsimp only at *
    obtain ⟨c1, c2, c3⟩ := hc k hlt
    clear h5 hc
    have HB := Lib.hid hB; clear hB
    by_cases hkm : k = m
    · have hng : (pt ps k).lo < 0 := by rw [hkm]; exact HN.out
      have HNG := Lib.hid hng; clear hng
      have HKM := Lib.hid hkm; clear hkm
      generalize pt ps k = q at *
      go_wp2_with (go_at_call 146; (with_reducible refine (isNeg q _ true (decide_eq_true HNG.out).symm).mono ?_); rintro e w_ ⟨rfl, hb_⟩; obtain ⟨y1, rfl⟩ := Soft.BW.mk hb_; clear hb_)
      go_ret
      refine ⟨ret_int (by rw [HKM.out]), ?_⟩
      exact HB.out.trans (y1.below.mono HB.out.size)
    · have hng : ¬(pt ps k).lo < 0 := by have := HP.out k (by omega); omega
      have HNG := Lib.hid hng; clear hng
      have hk' : k < m := by omega
      clear hkm
      generalize pt ps k = q at *
      go_wp2_with (go_at_call 146; (with_reducible refine (isNeg q _ false (decide_eq_false HNG.out).symm).mono ?_); rintro e w_ ⟨rfl, hb_⟩; obtain ⟨y1, rfl⟩ := Soft.BW.mk hb_; clear hb_)
      go_roundw
      case rel => exact ⟨k + 1, by omega, by simp, HB.out.trans (y1.below.mono HB.out.size)⟩
      case measure => simp [intOf]; omega

set_option maxHeartbeats 1000000 in
theorem indexNeg_no (t : Tb) (w : World) (ht : t.At w) (hpos : ∀ j, j < t.ps.length → 0 ≤ (pt t.ps j).lo) :
    Calls Try.prog 159 #[.slice (t).p (t).n (t).c, .func (.func 146) #[] #[]] w fun e w' => e = .returned (.int .i64 (-1)) ∧ Below w.heap.size w w' := by
  obtain ⟨p, n, c, ps⟩ := t
  have ht' := ht
  obtain ⟨h1, h2, h3, h4, h5⟩ := ht'
  dsimp only at *
  rw [h1] at hpos
  have HP := Lib.hid hpos; clear hpos
  have HL := Lib.hid h1; clear h1 h5
  by_cases hn : n = 0
  · have h0 : (n : Int) ≤ 0 := by omega
    clear hn
    go_enter Try.func159, Try.ntmps159
    go_wp2_with fail
    go_loopw [8] (fun i wr => i = .int .i64 0 ∧ wr = w) (fun i _ => 0)
    case atStart => exact ⟨rfl, rfl⟩
    case round =>
      obtain ⟨rfl, rfl⟩ := hrel
      go_wp2_with fail
      go_ret
      exact ⟨rfl, Below.refl _ _⟩
  · have hb : ∃ b o, p = some ⟨b, o, none⟩ := by
      obtain ⟨_, _, _, _, h5⟩ := ht
      obtain ⟨b, o, e, _⟩ := h5 hn
      exact ⟨b, o, e⟩
    obtain ⟨b, o, rfl⟩ := hb
    go_enter Try.func159, Try.ntmps159
    go_wp2_with fail
    go_loopw [8] (fun i wr => ∃ k : Nat, k ≤ n ∧ i = .int .i64 k ∧ Below w.heap.size w wr) (fun i _ => n - (intOf i).toNat)
    case atStart => exact ⟨0, Nat.zero_le _, rfl, Below.refl _ _⟩
    case round =>
      obtain ⟨k, hk, rfl, hB⟩ := hrel
      by_cases hlt : k < n
      · have htr := ht.same hB
        obtain ⟨_, _, _, _, h5⟩ := htr
        obtain ⟨b', o', e, hb, hc⟩ := h5 hn
        cases e
        dsimp only at *
        obtain ⟨c1, c2, c3⟩ := hc k hlt
        clear h5 hc
        have HB := Lib.hid hB; clear hB
        have HNG := Lib.hid (show ¬(pt ps k).lo < 0 by have := HP.out k hlt; omega)
        generalize pt ps k = q at *
        go_wp2_with (go_at_call 146; (with_reducible refine (isNeg q _ false (decide_eq_false HNG.out).symm).mono ?_); rintro e w_ ⟨rfl, hb_⟩; obtain ⟨y1, rfl⟩ := Soft.BW.mk hb_; clear hb_)
        go_roundw
        case rel => exact ⟨k + 1, by omega, by simp, HB.out.trans (y1.below.mono HB.out.size)⟩
        case measure => simp [intOf]; omega
      · obtain rfl : k = n := by omega
        have HB := Lib.hid hB; clear hB
        go_wp2_with fail
        go_ret
        exact ⟨rfl, HB.out⟩

instance (ps : List Pt) : Decidable (hasNeg ps) := decidable_of_iff (∃ k, k < ps.length ∧ (pt ps k).lo < 0) Iff.rfl

theorem least_neg {ps : List Pt} (h : hasNeg ps) : ∃ m, m < ps.length ∧ (pt ps m).lo < 0 ∧ ∀ j, j < m → 0 ≤ (pt ps j).lo := by
  obtain ⟨k, hk, hn⟩ := h
  induction k using Nat.strongRecOn with
  | _ k ih =>
    by_cases hex : ∃ j, j < k ∧ (pt ps j).lo < 0
    · obtain ⟨j, hj, hjn⟩ := hex
      exact ih j hj (by omega) hjn
    · exact ⟨k, hk, hn, fun j hj => by
        rcases Int.lt_or_le (pt ps j).lo 0 with h | h
        · exact absurd ⟨j, hj, h⟩ hex
        · exact h⟩

theorem containsNeg (t : Tb) (w : World) (ht : t.At w) (v : Bool) (hv : v = decide (hasNeg t.ps)) :
    Calls Try.prog 145 #[.slice (t).p (t).n (t).c, .func (.func 146) #[] #[]] w fun e w' => e = .returned (.bool v) ∧ Below w.heap.size w w' := by
  by_cases h : hasNeg t.ps
  · obtain rfl : v = true := by rw [hv]; exact decide_eq_true h
    obtain ⟨m, h1, h2, h3⟩ := least_neg h
    have H := Lib.hid h3; clear h3 hv h
    have hm0 : (0 : Int) ≤ m := by omega
    go_enter Try.func145, Try.ntmps145
    go_wp2_with (go_at_call 159; (with_reducible refine (indexNeg_yes t _ ht m h1 h2 H.out).mono ?_); rintro e w_ ⟨rfl, hb_⟩; obtain ⟨y1, rfl⟩ := Soft.BW.mk hb_; clear hb_)
    go_ret
    refine ⟨by simp, ?_⟩
    (repeat (first | with_reducible exact bel_refl _ | with_reducible refine bel_alloc ?_ _ | with_reducible refine bel_bw _ ?_ | with_reducible refine bel_drew ?_ | with_reducible refine bel_drewN _ ?_ | ((with_reducible refine bel_set ?_ ?_ _); rotate_left; focus (first | (simp; done) | omega | (simp; omega))) | refine bel_step ?_ (by with_reducible assumption)))
  · obtain rfl : v = false := by rw [hv]; exact decide_eq_false h
    have H := Lib.hid (show ∀ j, j < t.ps.length → 0 ≤ (pt t.ps j).lo from fun j hj => by
      rcases Int.lt_or_le (pt t.ps j).lo 0 with hl | hl
      · exact absurd ⟨j, hj, hl⟩ h
      · exact hl)
    clear hv h
    go_enter Try.func145, Try.ntmps145
    go_wp2_with (go_at_call 159; (with_reducible refine (indexNeg_no t _ ht H.out).mono ?_); rintro e w_ ⟨rfl, hb_⟩; obtain ⟨y1, rfl⟩ := Soft.BW.mk hb_; clear hb_)
    go_ret
    refine ⟨by simp, ?_⟩
    (repeat (first | with_reducible exact bel_refl _ | with_reducible refine bel_alloc ?_ _ | with_reducible refine bel_bw _ ?_ | with_reducible refine bel_drew ?_ | with_reducible refine bel_drewN _ ?_ | ((with_reducible refine bel_set ?_ ?_ _); rotate_left; focus (first | (simp; done) | omega | (simp; omega))) | refine bel_step ?_ (by with_reducible assumption)))

end Go.Proofs.Ytbjdgaeikihjbaa
