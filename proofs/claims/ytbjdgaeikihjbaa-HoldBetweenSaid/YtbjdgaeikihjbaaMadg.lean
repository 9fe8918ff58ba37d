/-
  The reference's and the law's small functions: Inside, Within, somewhere, dense, around; Curve, Value.
  Conditions: each theorem's own premises.
-/
import Derived.Test.YtbjdgaeikihjbaaMadf
namespace Go.Proofs.Ytbjdgaeikihjbaa
set_option linter.unusedSimpArgs false
set_option linter.unusedVariables false
open Go.RowKit
set_option maxRecDepth 100000
set_option maxHeartbeats 2000000
attribute [local go_sem] Instr.field asAgg Soft.upon Soft.BW.cell_if Soft.BW.frozen_if Soft.cell_alloc_if Soft.frozen_alloc_if

theorem R2_Inside (a b : Rg) (w : World) (v : Bool) (hv : v = decide (b.lo ≤ a.lo ∧ a.hi ≤ b.hi)) :
    Calls Try.prog 27 #[.agg #[.int .i64 (a).lo, .int .i64 (a).hi], .agg #[.int .i64 (b).lo, .int .i64 (b).hi]] w fun e w' => e = .returned (.bool v) ∧ Below w.heap.size w w' := by
  have HV := Lib.hid hv; clear hv
  go_enter Try.func27, Try.ntmps27
  go_wp2
  all_goals
    go_ret
    refine ⟨ret_bool ?_, ?_⟩
    · rw [HV.out, Bool.eq_iff_iff]
      simp
      omega
    · (repeat (first | with_reducible exact bel_refl _ | with_reducible refine bel_alloc ?_ _ | with_reducible refine bel_bw _ ?_ | with_reducible refine bel_drew ?_ | with_reducible refine bel_drewN _ ?_ | ((with_reducible refine bel_set ?_ ?_ _); rotate_left; focus (first | (simp; done) | omega | (simp; omega))) | refine bel_step ?_ (by with_reducible assumption)))

theorem R2_Within (r : Rg) (n d : Int) (w : World) (v : Bool) (hv : v = decide (r.lo * d ≤ n ∧ n ≤ r.hi * d)) (h1 : I64 (r.lo * d)) (h2 : I64 (r.hi * d)) :
    Calls Try.prog 35 #[.agg #[.int .i64 (r).lo, .int .i64 (r).hi], .int .i64 n, .int .i64 d] w fun e w' => e = .returned (.bool v) ∧ Below w.heap.size w w' := by
  have HV := Lib.hid hv; clear hv
  obtain ⟨a1, a2⟩ := h1
  obtain ⟨b1, b2⟩ := h2
  go_enter Try.func35, Try.ntmps35
  go_wp2
  all_goals
    go_ret
    refine ⟨ret_bool ?_, ?_⟩
    · rw [HV.out, Bool.eq_iff_iff]
      simp
      omega
    · (repeat (first | with_reducible exact bel_refl _ | with_reducible refine bel_alloc ?_ _ | with_reducible refine bel_bw _ ?_ | with_reducible refine bel_drew ?_ | with_reducible refine bel_drewN _ ?_ | ((with_reducible refine bel_set ?_ ?_ _); rotate_left; focus (first | (simp; done) | omega | (simp; omega))) | refine bel_step ?_ (by with_reducible assumption)))

/-- A number within a range. -/
def somS (r : Rg) (n : Int) : Int := r.lo + n % (r.hi - r.lo + 1)
theorem somS_in (r : Rg) (n : Int) (h : r.lo ≤ r.hi) : r.lo ≤ somS r n ∧ somS r n ≤ r.hi := by
  have a1 := Int.emod_nonneg n (show r.hi - r.lo + 1 ≠ 0 by omega)
  have a2 := Int.emod_lt_of_pos n (show 0 < r.hi - r.lo + 1 by omega)
  unfold somS
  omega

theorem L2_somewhere (r : Rg) (n : Int) (w : World) (h : RgIn r (-1000000000) 1000000000) :
    Calls Try.prog 19 #[.agg #[.int .i64 (r).lo, .int .i64 (r).hi], .int .i64 n] w fun e w' => e = .returned (.int .i64 (somS r n)) ∧ Below w.heap.size w w' := by
  obtain ⟨h1, h2, h3⟩ := h
  obtain ⟨z, hz⟩ : ∃ z, z = n % (r.hi - r.lo + 1) := ⟨_, rfl⟩
  have z1 := Int.emod_nonneg n (show r.hi - r.lo + 1 ≠ 0 by omega)
  have z2 := Int.emod_lt_of_pos n (show 0 < r.hi - r.lo + 1 by omega)
  rw [← hz] at z1 z2
  have HV := Lib.hid (show somS r n = r.lo + z by unfold somS; rw [← hz])
  have HZ := Lib.hid hz; clear hz
  go_enter Try.func19, Try.ntmps19
  go_wp2_with fail
  (refine Soft.region0 [0, 1, 2, 3, 4, 5, 6, 7, 8, 9, 10, 11] [] (by kernel_rfl) (by kernel_rfl) (by kernel_rfl) (by kernel_rfl) ?_; change Soft.wpSoft _ _ _ _ _ [_, _, _, _, _, _, _, _, _, _, _, _] _; (repeat (refine Soft.soft_step (fun K hK => ?_); go_simp; (try go_bits); first | (refine hK _ ?_; clear hK K) | (apply Exists.intro; refine ⟨fun x => ?_, hK _ ?_⟩; ((go_at_call 37; exact Calls.bel (R2_Mod _ _ z _ (by omega) (by omega) HZ.out))); clear hK K))); refine Soft.soft_nil ?_; intro xw; change wpList _ _ _ [] _ _)
  go_wp2_with fail
  go_ret
  refine ⟨ret_int HV.out.symm, ?_⟩
  (repeat (first | with_reducible exact bel_refl _ | with_reducible refine bel_alloc ?_ _ | with_reducible refine bel_bw _ ?_ | with_reducible refine bel_drew ?_ | with_reducible refine bel_drewN _ ?_ | ((with_reducible refine bel_set ?_ ?_ _); rotate_left; focus (first | (simp; done) | omega | (simp; omega))) | refine bel_step ?_ (by with_reducible assumption)))
theorem L2_dense (r : Rg) (n : Int) (w : World) (h : RgIn r (-1000000000) 1000000000) :
    Calls Try.prog 24 #[.agg #[.int .i64 (r).lo, .int .i64 (r).hi], .int .i64 n] w fun e w' => e = .returned (.int .i64 (somS r n)) ∧ Below w.heap.size w w' := by
  obtain ⟨h1, h2, h3⟩ := h
  obtain ⟨z, hz⟩ : ∃ z, z = n % (r.hi - r.lo + 1) := ⟨_, rfl⟩
  have z1 := Int.emod_nonneg n (show r.hi - r.lo + 1 ≠ 0 by omega)
  have z2 := Int.emod_lt_of_pos n (show 0 < r.hi - r.lo + 1 by omega)
  rw [← hz] at z1 z2
  have HV := Lib.hid (show somS r n = r.lo + z by unfold somS; rw [← hz])
  have HZ := Lib.hid hz; clear hz
  go_enter Try.func24, Try.ntmps24
  go_wp2_with fail
  (refine Soft.region0 [0, 1, 2, 3, 4, 5, 6, 7, 8, 9, 10, 11] [] (by kernel_rfl) (by kernel_rfl) (by kernel_rfl) (by kernel_rfl) ?_; change Soft.wpSoft _ _ _ _ _ [_, _, _, _, _, _, _, _, _, _, _, _] _; (repeat (refine Soft.soft_step (fun K hK => ?_); go_simp; (try go_bits); first | (refine hK _ ?_; clear hK K) | (apply Exists.intro; refine ⟨fun x => ?_, hK _ ?_⟩; ((go_at_call 37; exact Calls.bel (R2_Mod _ _ z _ (by omega) (by omega) HZ.out))); clear hK K))); refine Soft.soft_nil ?_; intro xw; change wpList _ _ _ [] _ _)
  go_wp2_with fail
  go_ret
  refine ⟨ret_int HV.out.symm, ?_⟩
  (repeat (first | with_reducible exact bel_refl _ | with_reducible refine bel_alloc ?_ _ | with_reducible refine bel_bw _ ?_ | with_reducible refine bel_drew ?_ | with_reducible refine bel_drewN _ ?_ | ((with_reducible refine bel_set ?_ ?_ _); rotate_left; focus (first | (simp; done) | omega | (simp; omega))) | refine bel_step ?_ (by with_reducible assumption)))

/-- The least range of whole numbers that has n / d. -/
def aroS (n d : Int) : Rg := ⟨n / d, if n / d * d < n then n / d + 1 else n / d⟩
theorem L2_around (n d : Int) (w : World) (h1 : 0 ≤ n) (h2 : n ≤ 1000000000000000000) (h3 : 1 ≤ d) (h4 : d ≤ 1000000000000000000) :
    Calls Try.prog 26 #[.int .i64 n, .int .i64 d] w fun e w' => e = .returned (.agg #[.int .i64 (aroS n d).lo, .int .i64 (aroS n d).hi]) ∧ Below w.heap.size w w' := by
  have a1 := Int.ediv_nonneg h1 (show 0 ≤ d by omega)
  have a2 := Int.ediv_le_self d h1
  have a3 := Int.ediv_mul_le n (show d ≠ 0 by omega)
  have a4 := Int.mul_nonneg a1 (show 0 ≤ d by omega)
  have a5 := Int.emod_nonneg n (show d ≠ 0 by omega)
  have a6 := Int.emod_lt_of_pos n (show 0 < d by omega)
  have d0 : (d == 0) = false := by rw [beq_eq_false_iff_ne]; omega
  by_cases c : n / d * d < n
  · have HV := Lib.hid (show aroS n d = ⟨n / d, n / d + 1⟩ by unfold aroS; rw [if_pos c])
    go_enter Try.func26, Try.ntmps26
    go_wp2_with fail
    rw [HV.out]
    refine bodyPost_ret (v := .agg #[.int .i64 ((⟨n / d, n / d + 1⟩ : Rg)).lo, .int .i64 ((⟨n / d, n / d + 1⟩ : Rg)).hi]) (by simp [results, Try.results26, go_sem]) rfl ?_
    refine ⟨rfl, ?_⟩
    (repeat (first | with_reducible exact bel_refl _ | with_reducible refine bel_alloc ?_ _ | with_reducible refine bel_bw _ ?_ | with_reducible refine bel_drew ?_ | with_reducible refine bel_drewN _ ?_ | ((with_reducible refine bel_set ?_ ?_ _); rotate_left; focus (first | (simp; done) | omega | (simp; omega))) | refine bel_step ?_ (by with_reducible assumption)))
  · have HV := Lib.hid (show aroS n d = ⟨n / d, n / d⟩ by unfold aroS; rw [if_neg c])
    go_enter Try.func26, Try.ntmps26
    go_wp2_with fail
    rw [HV.out]
    refine bodyPost_ret (v := .agg #[.int .i64 ((⟨n / d, n / d⟩ : Rg)).lo, .int .i64 ((⟨n / d, n / d⟩ : Rg)).hi]) (by simp [results, Try.results26, go_sem]) rfl ?_
    refine ⟨rfl, ?_⟩
    (repeat (first | with_reducible exact bel_refl _ | with_reducible refine bel_alloc ?_ _ | with_reducible refine bel_bw _ ?_ | with_reducible refine bel_drew ?_ | with_reducible refine bel_drewN _ ?_ | ((with_reducible refine bel_set ?_ ?_ _); rotate_left; focus (first | (simp; done) | omega | (simp; omega))) | refine bel_step ?_ (by with_reducible assumption)))

end Go.Proofs.Ytbjdgaeikihjbaa
