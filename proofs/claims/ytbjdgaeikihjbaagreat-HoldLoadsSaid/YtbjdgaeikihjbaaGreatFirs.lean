/-
  The reference's First, Last, between, Free, Filled (where no makers are there).
  Conditions: each theorem's own premises.
-/
import Derived.Test.YtbjdgaeikihjbaaGreatMono
import Derived.Test.YtbjdgaeikihjbaaGreatFille
namespace Go.Proofs.YtbjdgaeikihjbaaGreat
set_option linter.unusedSimpArgs false
set_option linter.unusedVariables false
open Go.RowKit
set_option maxRecDepth 100000
set_option maxHeartbeats 1000000
attribute [local go_sem] Instr.field asAgg Soft.upon Soft.BW.cell_if Soft.BW.frozen_if Soft.cell_alloc_if Soft.frozen_alloc_if

theorem R2_First (t : Tb) (w : World) (ht : t.At w) (hn : 1 ≤ t.n) :
    Calls Tryz.prog 98 #[.agg #[.slice (t).p (t).n (t).c]] w fun e w' => e = .returned (.int .i64 (firstX t.ps)) ∧ Below w.heap.size w w' := by
  unfold firstX
  obtain ⟨p, n, c, ps⟩ := t
  obtain ⟨h1, h2, h3, h4, h5⟩ := ht
  obtain ⟨b, o, rfl, hb, hc⟩ := h5 (by dsimp only at *; omega)
  dsimp only at *
  have c0 := (hc 0 (by omega)).1
  have H1 := Lib.hid h1; clear h1 hc h5
  generalize pt ps 0 = p0 at *
  simp only [Nat.zero_mul, Nat.add_zero] at c0
  have := Soft.LtH.mk (w := w) hb
  have i0 : 0 < n := by omega
  go_enter Tryz.func98, Tryz.ntmps98
  go_wp2
  go_ret
  refine ⟨rfl, ?_⟩
  (repeat (first | with_reducible exact bel_refl _ | with_reducible refine bel_alloc ?_ _ | with_reducible refine bel_bw _ ?_ | with_reducible refine bel_drew ?_ | with_reducible refine bel_drewN _ ?_ | ((with_reducible refine bel_set ?_ ?_ _); rotate_left; focus (first | (simp; done) | omega | (simp; omega))) | refine bel_step ?_ (by with_reducible assumption)))

theorem R2_Last (t : Tb) (w : World) (ht : t.At w) (hn : 1 ≤ t.n) :
    Calls Tryz.prog 90 #[.agg #[.slice (t).p (t).n (t).c]] w fun e w' => e = .returned (.int .i64 (lastX t.ps)) ∧ Below w.heap.size w w' := by
  have e0 := isIn_len ht
  unfold lastX
  rw [← e0]
  obtain ⟨p, n, c, ps⟩ := t
  obtain ⟨h1, h2, h3, h4, h5⟩ := ht
  obtain ⟨b, o, rfl, hb, hc⟩ := h5 (by dsimp only at *; omega)
  dsimp only at *
  have c1 := (hc (n - 1) (by omega)).1
  have H1 := Lib.hid h1; clear h1 hc h5 e0
  generalize pt ps (n - 1) = p1 at *
  have := Soft.LtH.mk (w := w) hb
  have i1 : (n : Int) - 1 < n := by omega
  have i2 : (1 : Int) ≤ n := by omega
  have i3 : ((n : Int) - 1).toNat = n - 1 := by omega
  go_enter Tryz.func90, Tryz.ntmps90
  go_wp2
  go_ret
  refine ⟨rfl, ?_⟩
  (repeat (first | with_reducible exact bel_refl _ | with_reducible refine bel_alloc ?_ _ | with_reducible refine bel_bw _ ?_ | with_reducible refine bel_drew ?_ | with_reducible refine bel_drewN _ ?_ | ((with_reducible refine bel_set ?_ ?_ _); rotate_left; focus (first | (simp; done) | omega | (simp; omega))) | refine bel_step ?_ (by with_reducible assumption)))

theorem R2_between (n lo hi : Int) (w : World) (v : Bool) (hv : v = decide (lo ≤ n ∧ n ≤ hi)) :
    Calls Tryz.prog 59 #[.int .i64 n, .int .i64 lo, .int .i64 hi] w fun e w' => e = .returned (.bool v) ∧ w' = w := by
  have HV := Lib.hid hv; clear hv
  go_enter Tryz.func59, Tryz.ntmps59
  go_wp2
  all_goals
    go_ret
    refine ⟨ret_bool ?_, rfl⟩
    rw [HV.out, Bool.eq_iff_iff]
    simp
    omega

theorem R2_Free (n : Int) (w : World) (v : Bool) (hv : v = decide (3 ≤ n ∧ n ≤ 5)) :
    Calls Tryz.prog 70 #[.int .i64 n] w fun e w' => e = .returned (.bool v) ∧ w' = w := by
  have HV := Lib.hid hv; clear hv
  go_enter Tryz.func70, Tryz.ntmps70
  go_wp2_with (go_at_call 59; (with_reducible refine (R2_between _ _ _ _ v HV.out).mono ?_); rintro e w_ ⟨rfl, hw_⟩; subst w_)
  go_ret
  exact ⟨rfl, rfl⟩
theorem R2_Filled (n : Int) (w : World) (v : Bool) (hv : v = decide (1 ≤ n ∧ n ≤ 2)) :
    Calls Tryz.prog 68 #[.int .i64 n] w fun e w' => e = .returned (.bool v) ∧ w' = w := by
  have HV := Lib.hid hv; clear hv
  go_enter Tryz.func68, Tryz.ntmps68
  go_wp2_with (go_at_call 59; (with_reducible refine (R2_between _ _ _ _ v HV.out).mono ?_); rintro e w_ ⟨rfl, hw_⟩; subst w_)
  go_ret
  exact ⟨rfl, rfl⟩

end Go.Proofs.YtbjdgaeikihjbaaGreat
