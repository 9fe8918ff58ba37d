/-
  The reference's small looks at ranges and tables: Valid, CheckRange, place, amount, density, places, floor, ValidTable, CheckTable, table.
  Conditions: each theorem's own premises.
-/
import Derived.Test.YtbjdgaeikihjbaaGreatFirs
import Derived.Test.YtbjdgaeikihjbaaGreatNorm
namespace Go.Proofs.YtbjdgaeikihjbaaGreat
set_option linter.unusedSimpArgs false
set_option linter.unusedVariables false
open Go.RowKit
set_option maxRecDepth 100000
set_option maxHeartbeats 4000000
attribute [local go_sem] Instr.field asAgg Soft.upon Soft.BW.cell_if Soft.BW.frozen_if Soft.cell_alloc_if Soft.frozen_alloc_if

theorem R1_Valid (r : Rg) (w : World) (v : Bool) (hv : v = decide (rangeErr r = 0)) :
    Calls Tryz.prog 111 #[.agg #[.int .i64 (r).lo, .int .i64 (r).hi]] w fun e w' => e = .returned (.bool v) ∧ Below w.heap.size w w' := by
  have HV := Lib.hid (show v = decide (-1000000000000000 ≤ r.lo ∧ r.lo ≤ r.hi ∧ r.hi ≤ 1000000000000000) by
    rw [hv, Bool.eq_iff_iff, decide_eq_true_eq, decide_eq_true_eq]
    unfold rangeErr
    split <;> omega)
  clear hv
  go_enter Tryz.func111, Tryz.ntmps111
  go_wp2
  all_goals
    go_ret
    refine ⟨ret_bool ?_, ?_⟩
    · rw [HV.out, Bool.eq_iff_iff]
      simp
      omega
    · (repeat (first | with_reducible exact bel_refl _ | with_reducible refine bel_alloc ?_ _ | with_reducible refine bel_bw _ ?_ | with_reducible refine bel_drew ?_ | with_reducible refine bel_drewN _ ?_ | ((with_reducible refine bel_set ?_ ?_ _); rotate_left; focus (first | (simp; done) | omega | (simp; omega))) | refine bel_step ?_ (by with_reducible assumption)))

theorem R1_CheckRange (r : Rg) (w : World) :
    Calls Tryz.prog 83 #[.agg #[.int .i64 (r).lo, .int .i64 (r).hi]] w fun e w' => e = .returned (.int .i64 (rangeErr r)) ∧ Below w.heap.size w w' := by
  rcases rangeErr_cases r with ⟨c, _⟩ | ⟨c, _⟩
  · have HC := Lib.hid (show true = decide (rangeErr r = 0) by rw [c]; rfl)
    have HV := Lib.hid c; clear c
    go_enter Tryz.func83, Tryz.ntmps83
    go_wp2_with ((go_at_call 111; (with_reducible refine (R1_Valid r _ true HC.out).mono ?_); rintro e w_ ⟨rfl, hb_⟩; obtain ⟨y1, rfl⟩ := Soft.BW.mk hb_; clear hb_))
    go_ret
    refine ⟨ret_int HV.out.symm, ?_⟩
    (repeat (first | with_reducible exact bel_refl _ | with_reducible refine bel_alloc ?_ _ | with_reducible refine bel_bw _ ?_ | with_reducible refine bel_drew ?_ | with_reducible refine bel_drewN _ ?_ | ((with_reducible refine bel_set ?_ ?_ _); rotate_left; focus (first | (simp; done) | omega | (simp; omega))) | refine bel_step ?_ (by with_reducible assumption)))
  · have HC := Lib.hid (show false = decide (rangeErr r = 0) by rw [c]; rfl)
    have HV := Lib.hid c; clear c
    go_enter Tryz.func83, Tryz.ntmps83
    go_wp2_with ((go_at_call 111; (with_reducible refine (R1_Valid r _ false HC.out).mono ?_); rintro e w_ ⟨rfl, hb_⟩; obtain ⟨y1, rfl⟩ := Soft.BW.mk hb_; clear hb_))
    go_ret
    refine ⟨ret_int HV.out.symm, ?_⟩
    (repeat (first | with_reducible exact bel_refl _ | with_reducible refine bel_alloc ?_ _ | with_reducible refine bel_bw _ ?_ | with_reducible refine bel_drew ?_ | with_reducible refine bel_drewN _ ?_ | ((with_reducible refine bel_set ?_ ?_ _); rotate_left; focus (first | (simp; done) | omega | (simp; omega))) | refine bel_step ?_ (by with_reducible assumption)))

theorem R2_place (r : Rg) (w : World) (v : Bool) (hv : v = decide (isPart r (-1000000) 1000000)) :
    Calls Tryz.prog 60 #[.agg #[.int .i64 (r).lo, .int .i64 (r).hi]] w fun e w' => e = .returned (.bool v) ∧ Below w.heap.size w w' := by
  have HV := Lib.hid (show v = decide (-1000000 ≤ r.lo ∧ r.lo ≤ r.hi ∧ r.hi ≤ 1000000) from hv); clear hv
  go_enter Tryz.func60, Tryz.ntmps60
  go_wp2
  all_goals
    go_ret
    refine ⟨ret_bool ?_, ?_⟩
    · rw [HV.out, Bool.eq_iff_iff]
      simp
      omega
    · (repeat (first | with_reducible exact bel_refl _ | with_reducible refine bel_alloc ?_ _ | with_reducible refine bel_bw _ ?_ | with_reducible refine bel_drew ?_ | with_reducible refine bel_drewN _ ?_ | ((with_reducible refine bel_set ?_ ?_ _); rotate_left; focus (first | (simp; done) | omega | (simp; omega))) | refine bel_step ?_ (by with_reducible assumption)))
theorem R2_amount (r : Rg) (w : World) (v : Bool) (hv : v = decide (isPart r 0 1000000000)) :
    Calls Tryz.prog 61 #[.agg #[.int .i64 (r).lo, .int .i64 (r).hi]] w fun e w' => e = .returned (.bool v) ∧ Below w.heap.size w w' := by
  have HV := Lib.hid (show v = decide (0 ≤ r.lo ∧ r.lo ≤ r.hi ∧ r.hi ≤ 1000000000) from hv); clear hv
  go_enter Tryz.func61, Tryz.ntmps61
  go_wp2
  all_goals
    go_ret
    refine ⟨ret_bool ?_, ?_⟩
    · rw [HV.out, Bool.eq_iff_iff]
      simp
      omega
    · (repeat (first | with_reducible exact bel_refl _ | with_reducible refine bel_alloc ?_ _ | with_reducible refine bel_bw _ ?_ | with_reducible refine bel_drew ?_ | with_reducible refine bel_drewN _ ?_ | ((with_reducible refine bel_set ?_ ?_ _); rotate_left; focus (first | (simp; done) | omega | (simp; omega))) | refine bel_step ?_ (by with_reducible assumption)))
theorem R2_density (r : Rg) (w : World) (v : Bool) (hv : v = decide (isDen r)) :
    Calls Tryz.prog 69 #[.agg #[.int .i64 (r).lo, .int .i64 (r).hi]] w fun e w' => e = .returned (.bool v) ∧ Below w.heap.size w w' := by
  have HV := Lib.hid (show v = decide (100 ≤ r.lo ∧ r.lo ≤ r.hi ∧ r.hi ≤ 2000) from hv); clear hv
  go_enter Tryz.func69, Tryz.ntmps69
  go_wp2
  all_goals
    go_ret
    refine ⟨ret_bool ?_, ?_⟩
    · rw [HV.out, Bool.eq_iff_iff]
      simp
      omega
    · (repeat (first | with_reducible exact bel_refl _ | with_reducible refine bel_alloc ?_ _ | with_reducible refine bel_bw _ ?_ | with_reducible refine bel_drew ?_ | with_reducible refine bel_drewN _ ?_ | ((with_reducible refine bel_set ?_ ?_ _); rotate_left; focus (first | (simp; done) | omega | (simp; omega))) | refine bel_step ?_ (by with_reducible assumption)))

theorem R2_floor (a b : Int) (w : World) (h1 : -9223372036854775807 ≤ a) (h2 : a ≤ 9223372036854775807) (hb : 1 ≤ b) :
    Calls Tryz.prog 112 #[.int .i64 a, .int .i64 b] w fun e w' => e = .returned (.int .i64 (a / b)) ∧ w' = w := by
  have hbd := tdiv_bd a b hb
  obtain ⟨r1, r2⟩ : -9223372036854775808 ≤ a.tdiv b - 1 ∧ a.tdiv b - 1 ≤ 9223372036854775807 := by omega
  clear hbd
  go_enter Tryz.func112, Tryz.ntmps112
  go_wp2
  all_goals
    go_ret
    refine ⟨ret_int ?_, rfl⟩
    first | exact (tdiv_neg a b hb (by assumption)).symm | exact (tdiv_pos a b hb (by assumption)).symm
theorem R1_Floor (a b : Int) (w : World) (h1 : -9223372036854775807 ≤ a) (h2 : a ≤ 9223372036854775807) (hb : 1 ≤ b) :
    Calls Tryz.prog 145 #[.int .i64 a, .int .i64 b] w fun e w' => e = .returned (.int .i64 (a / b)) ∧ w' = w := by
  have hbd := tdiv_bd a b hb
  obtain ⟨r1, r2⟩ : -9223372036854775808 ≤ a.tdiv b - 1 ∧ a.tdiv b - 1 ≤ 9223372036854775807 := by omega
  clear hbd
  go_enter Tryz.func145, Tryz.ntmps145
  go_wp2
  all_goals
    go_ret
    refine ⟨ret_int ?_, rfl⟩
    first | exact (tdiv_neg a b hb (by assumption)).symm | exact (tdiv_pos a b hb (by assumption)).symm

end Go.Proofs.YtbjdgaeikihjbaaGreat
