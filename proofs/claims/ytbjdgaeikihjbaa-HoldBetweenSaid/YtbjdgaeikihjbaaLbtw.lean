/-
  The walk of the law HoldBetween.
  Conditions: each theorem's own premises.
-/
import Derived.Test.YtbjdgaeikihjbaaRfo
import Derived.Test.YtbjdgaeikihjbaaSanf
namespace Go.Proofs.Ytbjdgaeikihjbaa
set_option linter.unusedSimpArgs false
set_option linter.unusedVariables false
open Go.RowKit
set_option maxRecDepth 100000
set_option maxHeartbeats 4000000
attribute [local go_sem] Instr.field asAgg Soft.upon Soft.BW.cell_if Soft.BW.frozen_if Soft.cell_alloc_if Soft.frozen_alloc_if

theorem L2_HoldBetween (h : Ho) (f g : Fi) (w : World) (hh : h.At w) :
    Calls Try.prog 8 #[.agg #[.int .i64 (h).id, .int .i64 ((h).along).lo, .int .i64 ((h).along).hi, .slice ((h).vol).p ((h).vol).n ((h).vol).c, .slice ((h).mom).p ((h).mom).n ((h).mom).c, .slice ((h).hei).p ((h).hei).n ((h).hei).c, .int .i64 ((h).tri).lo, .int .i64 ((h).tri).hi, .int .i64 ((h).unt).lo, .int .i64 ((h).unt).hi, .int .i64 ((h).v0).lo, .int .i64 ((h).v0).hi, .int .i64 ((h).h0).lo, .int .i64 ((h).h0).hi], .agg #[.int .i64 (f).hold, .int .i64 (f).state, .int .i64 ((f).ull).lo, .int .i64 ((f).ull).hi, .int .i64 ((f).den).lo, .int .i64 ((f).den).hi], .agg #[.int .i64 (g).hold, .int .i64 (g).state, .int .i64 ((g).ull).lo, .int .i64 ((g).ull).hi, .int .i64 ((g).den).lo, .int .i64 ((g).den).hi]] w fun e w' => e = .returned (.bool true) ∧ Below w.heap.size w w' := by
  have CB := Lib.hid (fun W hW => hold_Between h f g W hW)
  have CR := Lib.hid (fun W hW => R2_Between h f g W hW)
  generalize (betE h f g).1 = l at *
  generalize (betE h f g).2 = er at *
  go_enter Try.func8, Try.ntmps8
  go_wp2_with (first | (go_at_call 46; refine (CB.out _ (by with_reducible repeat (first | exact hh | refine Ho.At.alloc ?_ _ | refine Ho.At.bw ?_ _ | refine Tk.At.alloc ?_ _ | refine Tk.At.bw ?_ _))).mono ?_; rintro e w_ ⟨s, rfl, hs, hx, hb_⟩; obtain ⟨z1, rfl⟩ := Soft.BW.mk hb_; clear hb_) | (go_at_call 47; refine (CR.out _ (by with_reducible repeat (first | exact hh | refine Ho.At.alloc ?_ _ | refine Ho.At.bw ?_ _ | refine Tk.At.alloc ?_ _ | refine Tk.At.bw ?_ _))).mono ?_; rintro e w_ ⟨s2, rfl, hs2, hx2, hb_⟩; obtain ⟨z2, rfl⟩ := Soft.BW.mk hb_; clear hb_) | (go_at_call 48; (with_reducible refine (R2_SameFills s s2 _ (by repeat (first | exact hs | refine Fs.At.alloc ?_ _ | refine Fs.At.bw ?_ _)) (by repeat (first | exact hs2 | refine Fs.At.alloc ?_ _ | refine Fs.At.bw ?_ _)) (hx.trans hx2.symm)).mono ?_); rintro e w_ ⟨rfl, hb_⟩; obtain ⟨z3, rfl⟩ := Soft.BW.mk hb_; clear hb_) | (go_at_call 23; (with_reducible refine (L2_sane _).mono ?_); rintro e w_ ⟨rfl, hb_⟩; obtain ⟨z4, rfl⟩ := Soft.BW.mk hb_; clear hb_))
  go_ret
  refine ⟨rfl, ?_⟩
  (repeat (first | with_reducible exact bel_refl _ | with_reducible refine bel_alloc ?_ _ | with_reducible refine bel_bw _ ?_ | with_reducible refine bel_drew ?_ | with_reducible refine bel_drewN _ ?_ | ((with_reducible refine bel_set ?_ ?_ _); rotate_left; focus (first | (simp; done) | omega | (simp; omega))) | refine bel_step ?_ (by with_reducible assumption)))

end Go.Proofs.Ytbjdgaeikihjbaa
