/-
  hold: Worst for all fills.
  Conditions: each theorem's own premises.
-/
import Derived.Test.YtbjdgaeikihjbaaWors
namespace Go.Proofs.Ytbjdgaeikihjbaa
set_option linter.unusedSimpArgs false
set_option linter.unusedVariables false
open Go.RowKit
set_option maxRecDepth 100000
set_option maxHeartbeats 4000000
attribute [local go_sem] Instr.field asAgg Soft.upon Soft.BW.cell_if Soft.BW.frozen_if Soft.cell_alloc_if Soft.frozen_alloc_if

def wrsE (h : Ho) (f : Fi) : Int × Int := if fillErr h f = 0 then (if f.state = 3 then worS h.mom.ps f.ull else (0, (momS h f).hi)) else (0, 0)

theorem hold_Worst (h : Ho) (f : Fi) (w : World) (hh : h.At w) :
    Calls Try.prog 40 #[.agg #[.int .i64 (h).id, .int .i64 ((h).along).lo, .int .i64 ((h).along).hi, .slice ((h).vol).p ((h).vol).n ((h).vol).c, .slice ((h).mom).p ((h).mom).n ((h).mom).c, .slice ((h).hei).p ((h).hei).n ((h).hei).c, .int .i64 ((h).tri).lo, .int .i64 ((h).tri).hi, .int .i64 ((h).unt).lo, .int .i64 ((h).unt).hi, .int .i64 ((h).v0).lo, .int .i64 ((h).v0).hi, .int .i64 ((h).h0).lo, .int .i64 ((h).h0).hi], .agg #[.int .i64 (f).hold, .int .i64 (f).state, .int .i64 ((f).ull).lo, .int .i64 ((f).ull).hi, .int .i64 ((f).den).lo, .int .i64 ((f).den).hi]] w fun e w' => e = .returned (.tuple #[.int .i64 (wrsE h f).1, .int .i64 (wrsE h f).2, .int .i64 (fillErr h f)]) ∧ Below w.heap.size w w' := by
  by_cases hc : fillErr h f = 0
  · obtain ⟨h0, h1⟩ := fill_ok hc
    by_cases h3 : f.state = 3
    · have e : wrsE h f = worS h.mom.ps f.ull := by unfold wrsE; rw [if_pos hc, if_pos h3]
      rw [e, hc]
      exact hold_Worst3 h f w hh h0 h1 h3
    · have HV := Lib.hid (show wrsE h f = (0, (momS h f).hi) by unfold wrsE; rw [if_pos hc, if_neg h3])
      have d3 : (f.state != 3) = true := bne_iff_ne.2 h3
      have d0 : (fillErr h f != 0) = false := by rw [hc]; rfl
      have HC := Lib.hid hc
      have HS := Lib.hid (state_in h1)
      clear hc h0 h1 h3
      go_enter Try.func40, Try.ntmps40
      go_wp2_with (first | (go_at_call 68; (with_reducible refine (hold_CheckFill h f _ (by with_reducible repeat (first | exact hh | refine Ho.At.alloc ?_ _ | refine Ho.At.bw ?_ _ | refine Tk.At.alloc ?_ _ | refine Tk.At.bw ?_ _))).mono ?_); rintro e w_ ⟨rfl, hb_⟩; obtain ⟨y1, rfl⟩ := Soft.BW.mk hb_; clear hb_) | (go_at_call 78; (with_reducible refine (hold_moment h f _ (by with_reducible repeat (first | exact hh | refine Ho.At.alloc ?_ _ | refine Ho.At.bw ?_ _ | refine Tk.At.alloc ?_ _ | refine Tk.At.bw ?_ _)) HS.out).mono ?_); rintro e w_ ⟨rfl, hb_⟩; obtain ⟨y2, rfl⟩ := Soft.BW.mk hb_; clear hb_))
      rw [HV.out, HC.out]
      refine bodyPost_ret (v := .tuple #[.int .i64 0, .int .i64 (momS h f).hi, .int .i64 0]) (by simp [results, Try.results40, go_sem]) rfl ?_
      refine ⟨rfl, ?_⟩
      (repeat (first | with_reducible exact bel_refl _ | with_reducible refine bel_alloc ?_ _ | with_reducible refine bel_bw _ ?_ | with_reducible refine bel_drew ?_ | with_reducible refine bel_drewN _ ?_ | ((with_reducible refine bel_set ?_ ?_ _); rotate_left; focus (first | (simp; done) | omega | (simp; omega))) | refine bel_step ?_ (by with_reducible assumption)))
  · have HV := Lib.hid (show wrsE h f = (0, 0) by unfold wrsE; rw [if_neg hc])
    have d0 : (fillErr h f != 0) = true := bne_iff_ne.2 hc
    clear hc
    go_enter Try.func40, Try.ntmps40
    go_wp2_with (first | (go_at_call 68; (with_reducible refine (hold_CheckFill h f _ (by with_reducible repeat (first | exact hh | refine Ho.At.alloc ?_ _ | refine Ho.At.bw ?_ _ | refine Tk.At.alloc ?_ _ | refine Tk.At.bw ?_ _))).mono ?_); rintro e w_ ⟨rfl, hb_⟩; obtain ⟨y1, rfl⟩ := Soft.BW.mk hb_; clear hb_))
    rw [HV.out]
    refine bodyPost_ret (v := .tuple #[.int .i64 0, .int .i64 0, .int .i64 (fillErr h f)]) (by simp [results, Try.results40, go_sem]) rfl ?_
    refine ⟨rfl, ?_⟩
    (repeat (first | with_reducible exact bel_refl _ | with_reducible refine bel_alloc ?_ _ | with_reducible refine bel_bw _ ?_ | with_reducible refine bel_drew ?_ | with_reducible refine bel_drewN _ ?_ | ((with_reducible refine bel_set ?_ ?_ _); rotate_left; focus (first | (simp; done) | omega | (simp; omega))) | refine bel_step ?_ (by with_reducible assumption)))

end Go.Proofs.Ytbjdgaeikihjbaa
