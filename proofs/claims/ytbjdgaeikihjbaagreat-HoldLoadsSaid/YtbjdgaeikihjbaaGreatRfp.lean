/-
  The reference's moment, Worst, CheckWorst.
  Conditions: each theorem's own premises.
-/
import Derived.Test.YtbjdgaeikihjbaaGreatRfn
namespace Go.Proofs.YtbjdgaeikihjbaaGreat
set_option linter.unusedSimpArgs false
set_option linter.unusedVariables false
open Go.RowKit
set_option maxRecDepth 100000
set_option maxHeartbeats 4000000
attribute [local go_sem] Instr.field asAgg Soft.upon Soft.BW.cell_if Soft.BW.frozen_if Soft.cell_alloc_if Soft.frozen_alloc_if

theorem R2_moment (h : Ho) (f : Fi) (w : World) (hh : h.At w) (h0 : HoldOk h) (h1 : FillIn h f) :
    Calls Tryz.prog 49 #[.agg #[.int .i64 (h).id, .int .i64 ((h).along).lo, .int .i64 ((h).along).hi, .slice ((h).vol).p ((h).vol).n ((h).vol).c, .slice ((h).mom).p ((h).mom).n ((h).mom).c, .slice ((h).hei).p ((h).hei).n ((h).hei).c, .int .i64 ((h).tri).lo, .int .i64 ((h).tri).hi, .int .i64 ((h).unt).lo, .int .i64 ((h).unt).hi, .int .i64 ((h).v0).lo, .int .i64 ((h).v0).hi, .int .i64 ((h).h0).lo, .int .i64 ((h).h0).hi], .agg #[.int .i64 (f).hold, .int .i64 (f).state, .int .i64 ((f).ull).lo, .int .i64 ((f).ull).hi, .int .i64 ((f).den).lo, .int .i64 ((f).den).hi]] w fun e w' => e = .returned (.agg #[.int .i64 (momS h f).lo, .int .i64 (momS h f).hi]) ∧ Below w.heap.size w w' := by
  have hv := hh.2.1
  by_cases z1 : f.state = 1
  · have HV := Lib.hid (show momS h f = h.tri from if_pos z1)
    have d1 : (f.state == 1) = true := by rw [z1]; rfl
    clear h0 h1 z1
    go_enter Tryz.func49, Tryz.ntmps49
    go_wp2_with fail
    rw [HV.out]
    refine bodyPost_ret (v := .agg #[.int .i64 h.tri.lo, .int .i64 h.tri.hi]) (by simp [results, Tryz.results49, go_sem]) rfl ?_
    refine ⟨rfl, ?_⟩
    (repeat (first | with_reducible exact bel_refl _ | with_reducible refine bel_alloc ?_ _ | with_reducible refine bel_bw _ ?_ | with_reducible refine bel_drew ?_ | with_reducible refine bel_drewN _ ?_ | ((with_reducible refine bel_set ?_ ?_ _); rotate_left; focus (first | (simp; done) | omega | (simp; omega))) | refine bel_step ?_ (by with_reducible assumption)))
  · have d1 : (f.state == 1) = false := beq_eq_false_iff_ne.2 z1
    by_cases z2 : f.state = 2
    · have HV := Lib.hid (show momS h f = h.unt by unfold momS; rw [if_neg z1, if_pos z2])
      have d2 : (f.state == 2) = true := by rw [z2]; rfl
      clear h0 h1 z1 z2
      go_enter Tryz.func49, Tryz.ntmps49
      go_wp2_with fail
      rw [HV.out]
      refine bodyPost_ret (v := .agg #[.int .i64 h.unt.lo, .int .i64 h.unt.hi]) (by simp [results, Tryz.results49, go_sem]) rfl ?_
      refine ⟨rfl, ?_⟩
      (repeat (first | with_reducible exact bel_refl _ | with_reducible refine bel_alloc ?_ _ | with_reducible refine bel_bw _ ?_ | with_reducible refine bel_drew ?_ | with_reducible refine bel_drewN _ ?_ | ((with_reducible refine bel_set ?_ ?_ _); rotate_left; focus (first | (simp; done) | omega | (simp; omega))) | refine bel_step ?_ (by with_reducible assumption)))
    · have d2 : (f.state == 2) = false := beq_eq_false_iff_ne.2 z2
      by_cases z3 : f.state = 3
      · have HV := Lib.hid (show momS h f = (overE h.mom.ps f.ull).1 by unfold momS; rw [if_neg z1, if_neg z2, if_pos z3])
        have d3 : (f.state == 3) = true := by rw [z3]; rfl
        obtain ⟨_, ⟨t2, s2⟩, _⟩ := h0.tabs
        obtain ⟨_, hp, _⟩ := fill_free h1 (by omega)
        rw [← s2.1, ← s2.2] at hp
        have CO := Lib.hid (fun W hW => R2_over h.mom f.ull W hW t2 hp)
        rw [HV.out]
        clear h0 h1 z1 z2 z3 t2 s2 hp HV
        generalize (overE h.mom.ps f.ull).1 = rr at *
        go_enter Tryz.func49, Tryz.ntmps49
        go_wp2_with ((go_at_call 87; (with_reducible refine (CO.out _ (by repeat (first | exact hv | refine Tb.At.alloc ?_ _ | refine Tb.At.bw ?_ _))).mono ?_); rintro e w_ ⟨rfl, hb_⟩; obtain ⟨y1, rfl⟩ := Soft.BW.mk hb_; clear hb_))
        refine bodyPost_ret (v := .agg #[.int .i64 rr.lo, .int .i64 rr.hi]) (by simp [results, Tryz.results49, go_sem]) rfl ?_
        refine ⟨rfl, ?_⟩
        (repeat (first | with_reducible exact bel_refl _ | with_reducible refine bel_alloc ?_ _ | with_reducible refine bel_bw _ ?_ | with_reducible refine bel_drew ?_ | with_reducible refine bel_drewN _ ?_ | ((with_reducible refine bel_set ?_ ?_ _); rotate_left; focus (first | (simp; done) | omega | (simp; omega))) | refine bel_step ?_ (by with_reducible assumption)))
      · have HV := Lib.hid (show momS h f = ⟨0, 0⟩ by unfold momS; rw [if_neg z1, if_neg z2, if_neg z3])
        have d3 : (f.state == 3) = false := beq_eq_false_iff_ne.2 z3
        clear h0 h1 z1 z2 z3
        go_enter Tryz.func49, Tryz.ntmps49
        go_wp2_with fail
        rw [HV.out]
        refine bodyPost_ret (v := .agg #[.int .i64 0, .int .i64 0]) (by simp [results, Tryz.results49, go_sem]) rfl ?_
        refine ⟨rfl, ?_⟩
        (repeat (first | with_reducible exact bel_refl _ | with_reducible refine bel_alloc ?_ _ | with_reducible refine bel_bw _ ?_ | with_reducible refine bel_drew ?_ | with_reducible refine bel_drewN _ ?_ | ((with_reducible refine bel_set ?_ ?_ _); rotate_left; focus (first | (simp; done) | omega | (simp; omega))) | refine bel_step ?_ (by with_reducible assumption)))

end Go.Proofs.YtbjdgaeikihjbaaGreat
