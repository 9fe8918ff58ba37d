/-
  The law's part: a range within another one.
  Conditions: each theorem's own premises.
-/
import Derived.Test.YtbjdgaeikihjbaaLnar
import Derived.Test.YtbjdgaeikihjbaaTrut
namespace Go.Proofs.Ytbjdgaeikihjbaa
set_option linter.unusedSimpArgs false
set_option linter.unusedVariables false
open Go.RowKit
set_option maxRecDepth 100000
set_option maxHeartbeats 4000000
attribute [local go_sem] Instr.field asAgg Soft.upon Soft.BW.cell_if Soft.BW.frozen_if Soft.cell_alloc_if Soft.frozen_alloc_if

def partS (r : Rg) (a b : Int) : Rg := ⟨somS r a, somS r a + b % (r.hi - somS r a + 1)⟩
theorem partS_in (r : Rg) (a b : Int) (h : r.lo ≤ r.hi) : InS (partS r a b) r ∧ (partS r a b).lo ≤ (partS r a b).hi := by
  have hs := somS_in r a h
  unfold partS InS
  dsimp only
  generalize somS r a = s at *
  have a1 := Int.emod_nonneg b (show r.hi - s + 1 ≠ 0 by omega)
  have a2 := Int.emod_lt_of_pos b (show 0 < r.hi - s + 1 by omega)
  omega

theorem L2_part (r : Rg) (a b : Int) (w : World) (hr : -1000000000 ≤ r.lo ∧ r.lo ≤ r.hi ∧ r.hi ≤ 1000000000) :
    Calls Try.prog 55 #[.agg #[.int .i64 (r).lo, .int .i64 (r).hi], .int .i64 a, .int .i64 b] w fun e w' => e = .returned (.agg #[.int .i64 (partS r a b).lo, .int .i64 (partS r a b).hi]) ∧ Below w.heap.size w w' := by
  have hs := somS_in r a hr.2.1
  have CS := Lib.hid (fun W => L2_somewhere r a W ⟨hr.1, hr.2.1, hr.2.2⟩)
  obtain ⟨r1, r2, r3⟩ := hr
  have HV0 := Lib.hid (show partS r a b = ⟨somS r a, somS r a + b % (r.hi - somS r a + 1)⟩ from rfl)
  generalize somS r a = s at *
  obtain ⟨z, hz⟩ : ∃ z, z = b % (r.hi - s + 1) := ⟨_, rfl⟩
  have a1 := Int.emod_nonneg b (show r.hi - s + 1 ≠ 0 by omega)
  have a2 := Int.emod_lt_of_pos b (show 0 < r.hi - s + 1 by omega)
  rw [← hz] at a1 a2
  have HV := Lib.hid (show partS r a b = ⟨s, s + z⟩ by rw [HV0.out, hz])
  have HZ := Lib.hid hz
  clear hz HV0
  go_enter Try.func55, Try.ntmps55
  go_wp2_with (first | (go_at_call 19; (with_reducible refine (CS.out _).mono ?_); rintro e w_ ⟨rfl, hb_⟩; obtain ⟨y1, rfl⟩ := Soft.BW.mk hb_; clear hb_) | (go_at_call 37; (with_reducible refine (R2_Mod _ _ z _ (by omega) (by omega) HZ.out).mono ?_); rintro e w_ ⟨rfl, hw_⟩; subst w_))
  rw [HV.out]
  refine bodyPost_ret (v := .agg #[.int .i64 s, .int .i64 (s + z)]) (by simp [results, Try.results55, go_sem]) rfl ?_
  refine ⟨rfl, ?_⟩
  (repeat (first | with_reducible exact bel_refl _ | with_reducible refine bel_alloc ?_ _ | with_reducible refine bel_bw _ ?_ | with_reducible refine bel_drew ?_ | with_reducible refine bel_drewN _ ?_ | ((with_reducible refine bel_set ?_ ?_ _); rotate_left; focus (first | (simp; done) | omega | (simp; omega))) | refine bel_step ?_ (by with_reducible assumption)))

theorem fiS_state (h : Ho) (x0 x1 x2 x3 x4 : Int) : (fiS h x0 x1 x2 x3 x4).state = stS x0 := by
  unfold fiS
  split
  · rename_i e; rw [e]
  · split <;> rfl

end Go.Proofs.Ytbjdgaeikihjbaa
