/-
  The chapter's examples are so: sane.
  Conditions: none.
-/
import Derived.Test.YtbjdgaeikihjbaaSand
namespace Go.Proofs.Ytbjdgaeikihjbaa
set_option linter.unusedSimpArgs false
set_option linter.unusedVariables false
open Go.RowKit
set_option maxRecDepth 100000
set_option maxHeartbeats 4000000
attribute [local go_sem] Instr.field asAgg Soft.upon Soft.BW.cell_if Soft.BW.frozen_if Soft.cell_alloc_if Soft.frozen_alloc_if

theorem exc_mass (a b c : Nat) (w : World) (hh : (exH a b c).At w) :
    Calls Try.prog 30 #[.agg #[.int .i64 ((exH a b c)).id, .int .i64 (((exH a b c)).along).lo, .int .i64 (((exH a b c)).along).hi, .slice (((exH a b c)).vol).p (((exH a b c)).vol).n (((exH a b c)).vol).c, .slice (((exH a b c)).mom).p (((exH a b c)).mom).n (((exH a b c)).mom).c, .slice (((exH a b c)).hei).p (((exH a b c)).hei).n (((exH a b c)).hei).c, .int .i64 (((exH a b c)).tri).lo, .int .i64 (((exH a b c)).tri).hi, .int .i64 (((exH a b c)).unt).lo, .int .i64 (((exH a b c)).unt).hi, .int .i64 (((exH a b c)).v0).lo, .int .i64 (((exH a b c)).v0).hi, .int .i64 (((exH a b c)).h0).lo, .int .i64 (((exH a b c)).h0).hi], .agg #[.int .i64 (exF).hold, .int .i64 (exF).state, .int .i64 ((exF).ull).lo, .int .i64 ((exF).ull).hi, .int .i64 ((exF).den).lo, .int .i64 ((exF).den).hi]] w fun e w' => e = .returned (.tuple #[.agg #[.int .i64 320, .int .i64 480], .int .i64 0]) ∧ Below w.heap.size w w' := by
  have h := hold_Mass (exH a b c) exF w hh
  rw [ex_mass, ex_ok] at h
  exact h
theorem exc_heel (a b c : Nat) (w : World) (hh : (exH a b c).At w) :
    Calls Try.prog 32 #[.agg #[.int .i64 ((exH a b c)).id, .int .i64 (((exH a b c)).along).lo, .int .i64 (((exH a b c)).along).hi, .slice (((exH a b c)).vol).p (((exH a b c)).vol).n (((exH a b c)).vol).c, .slice (((exH a b c)).mom).p (((exH a b c)).mom).n (((exH a b c)).mom).c, .slice (((exH a b c)).hei).p (((exH a b c)).hei).n (((exH a b c)).hei).c, .int .i64 (((exH a b c)).tri).lo, .int .i64 (((exH a b c)).tri).hi, .int .i64 (((exH a b c)).unt).lo, .int .i64 (((exH a b c)).unt).hi, .int .i64 (((exH a b c)).v0).lo, .int .i64 (((exH a b c)).v0).hi, .int .i64 (((exH a b c)).h0).lo, .int .i64 (((exH a b c)).h0).hi], .agg #[.int .i64 (exF).hold, .int .i64 (exF).state, .int .i64 ((exF).ull).lo, .int .i64 ((exF).ull).hi, .int .i64 ((exF).den).lo, .int .i64 ((exF).den).hi]] w fun e w' => e = .returned (.tuple #[.agg #[.int .i64 256, .int .i64 400], .int .i64 0]) ∧ Below w.heap.size w w' := by
  have h := hold_Heel (exH a b c) exF w hh
  rw [ex_heel, ex_ok] at h
  exact h
theorem exc_ull (a b c : Nat) (w : World) (hh : (exH a b c).At w) :
    Calls Try.prog 38 #[.agg #[.int .i64 ((exH a b c)).id, .int .i64 (((exH a b c)).along).lo, .int .i64 (((exH a b c)).along).hi, .slice (((exH a b c)).vol).p (((exH a b c)).vol).n (((exH a b c)).vol).c, .slice (((exH a b c)).mom).p (((exH a b c)).mom).n (((exH a b c)).mom).c, .slice (((exH a b c)).hei).p (((exH a b c)).hei).n (((exH a b c)).hei).c, .int .i64 (((exH a b c)).tri).lo, .int .i64 (((exH a b c)).tri).hi, .int .i64 (((exH a b c)).unt).lo, .int .i64 (((exH a b c)).unt).hi, .int .i64 (((exH a b c)).v0).lo, .int .i64 (((exH a b c)).v0).hi, .int .i64 (((exH a b c)).h0).lo, .int .i64 (((exH a b c)).h0).hi], .agg #[.int .i64 400, .int .i64 400], .agg #[.int .i64 (exF.den).lo, .int .i64 (exF.den).hi]] w fun e w' => e = .returned (.tuple #[.agg #[.int .i64 49, .int .i64 51], .int .i64 0]) ∧ Below w.heap.size w w' := by
  have h := hold_Ullage (exH a b c) ⟨400, 400⟩ exF.den w hh
  rw [show ullE (exH a b c) ⟨400, 400⟩ exF.den = (⟨49, 51⟩, 0) from ex_ull a b c] at h
  exact h
theorem exc_pour (a b c : Nat) (w : World) (hh : (exH a b c).At w) :
    Calls Try.prog 25 #[.agg #[.int .i64 ((exH a b c)).id, .int .i64 (((exH a b c)).along).lo, .int .i64 (((exH a b c)).along).hi, .slice (((exH a b c)).vol).p (((exH a b c)).vol).n (((exH a b c)).vol).c, .slice (((exH a b c)).mom).p (((exH a b c)).mom).n (((exH a b c)).mom).c, .slice (((exH a b c)).hei).p (((exH a b c)).hei).n (((exH a b c)).hei).c, .int .i64 (((exH a b c)).tri).lo, .int .i64 (((exH a b c)).tri).hi, .int .i64 (((exH a b c)).unt).lo, .int .i64 (((exH a b c)).unt).hi, .int .i64 (((exH a b c)).v0).lo, .int .i64 (((exH a b c)).v0).hi, .int .i64 (((exH a b c)).h0).lo, .int .i64 (((exH a b c)).h0).hi], .agg #[.int .i64 (exF).hold, .int .i64 (exF).state, .int .i64 ((exF).ull).lo, .int .i64 ((exF).ull).hi, .int .i64 ((exF).den).lo, .int .i64 ((exF).den).hi], .agg #[.int .i64 80, .int .i64 80], .agg #[.int .i64 (exF.den).lo, .int .i64 (exF.den).hi]] w fun e w' => e = .returned (.tuple #[.agg #[.int .i64 1, .int .i64 3, .int .i64 29, .int .i64 51, .int .i64 800, .int .i64 800], .int .i64 0]) ∧ Below w.heap.size w w' := by
  have h := hold_Pour (exH a b c) exF ⟨80, 80⟩ exF.den w hh
  rw [show pourE (exH a b c) exF ⟨80, 80⟩ exF.den = (⟨1, 3, ⟨29, 51⟩, ⟨800, 800⟩⟩, 0) from ex_pour a b c] at h
  exact h
theorem exc_worst (a b c : Nat) (w : World) (hh : (exH a b c).At w) :
    Calls Try.prog 40 #[.agg #[.int .i64 ((exH a b c)).id, .int .i64 (((exH a b c)).along).lo, .int .i64 (((exH a b c)).along).hi, .slice (((exH a b c)).vol).p (((exH a b c)).vol).n (((exH a b c)).vol).c, .slice (((exH a b c)).mom).p (((exH a b c)).mom).n (((exH a b c)).mom).c, .slice (((exH a b c)).hei).p (((exH a b c)).hei).n (((exH a b c)).hei).c, .int .i64 (((exH a b c)).tri).lo, .int .i64 (((exH a b c)).tri).hi, .int .i64 (((exH a b c)).unt).lo, .int .i64 (((exH a b c)).unt).hi, .int .i64 (((exH a b c)).v0).lo, .int .i64 (((exH a b c)).v0).hi, .int .i64 (((exH a b c)).h0).lo, .int .i64 (((exH a b c)).h0).hi], .agg #[.int .i64 (exF).hold, .int .i64 (exF).state, .int .i64 ((exF).ull).lo, .int .i64 ((exF).ull).hi, .int .i64 ((exF).den).lo, .int .i64 ((exF).den).hi]] w fun e w' => e = .returned (.tuple #[.int .i64 50, .int .i64 500, .int .i64 0]) ∧ Below w.heap.size w w' := by
  have h := hold_Worst (exH a b c) exF w hh
  rw [ex_worst, ex_ok] at h
  exact h

theorem L2_sane (w : World) : Calls Try.prog 23 #[] w fun e w' => e = .returned (.bool true) ∧ Below w.heap.size w w' := by
  go_enter Try.func23, Try.ntmps23
  go_wp2_with (go_at_call 67; (with_reducible refine (L2_example _).mono ?_); rintro e w_ ⟨g1, g2, g3, rfl, hh, hb_⟩; obtain ⟨y0, rfl⟩ := Soft.BW.mk hb_; clear hb_)
  go_wp2_with (first | (go_at_call 30; (with_reducible refine (exc_mass g1 g2 g3 _ (by with_reducible repeat (first | exact hh | refine Ho.At.alloc ?_ _ | refine Ho.At.bw ?_ _ | refine Tk.At.alloc ?_ _ | refine Tk.At.bw ?_ _))).mono ?_); rintro e w_ ⟨rfl, hb_⟩; obtain ⟨y1, rfl⟩ := Soft.BW.mk hb_; clear hb_) | (go_at_call 32; (with_reducible refine (exc_heel g1 g2 g3 _ (by with_reducible repeat (first | exact hh | refine Ho.At.alloc ?_ _ | refine Ho.At.bw ?_ _ | refine Tk.At.alloc ?_ _ | refine Tk.At.bw ?_ _))).mono ?_); rintro e w_ ⟨rfl, hb_⟩; obtain ⟨y2, rfl⟩ := Soft.BW.mk hb_; clear hb_) | (go_at_call 38; (with_reducible refine (exc_ull g1 g2 g3 _ (by with_reducible repeat (first | exact hh | refine Ho.At.alloc ?_ _ | refine Ho.At.bw ?_ _ | refine Tk.At.alloc ?_ _ | refine Tk.At.bw ?_ _))).mono ?_); rintro e w_ ⟨rfl, hb_⟩; obtain ⟨y3, rfl⟩ := Soft.BW.mk hb_; clear hb_) | (go_at_call 25; (with_reducible refine (exc_pour g1 g2 g3 _ (by with_reducible repeat (first | exact hh | refine Ho.At.alloc ?_ _ | refine Ho.At.bw ?_ _ | refine Tk.At.alloc ?_ _ | refine Tk.At.bw ?_ _))).mono ?_); rintro e w_ ⟨rfl, hb_⟩; obtain ⟨y4, rfl⟩ := Soft.BW.mk hb_; clear hb_) | (go_at_call 40; (with_reducible refine (exc_worst g1 g2 g3 _ (by with_reducible repeat (first | exact hh | refine Ho.At.alloc ?_ _ | refine Ho.At.bw ?_ _ | refine Tk.At.alloc ?_ _ | refine Tk.At.bw ?_ _))).mono ?_); rintro e w_ ⟨rfl, hb_⟩; obtain ⟨y5, rfl⟩ := Soft.BW.mk hb_; clear hb_))
  go_ret
  refine ⟨rfl, ?_⟩
  (repeat (first | with_reducible exact bel_refl _ | with_reducible refine bel_alloc ?_ _ | with_reducible refine bel_bw _ ?_ | with_reducible refine bel_drew ?_ | with_reducible refine bel_drewN _ ?_ | ((with_reducible refine bel_set ?_ ?_ _); rotate_left; focus (first | (simp; done) | omega | (simp; omega))) | refine bel_step ?_ (by with_reducible assumption)))

end Go.Proofs.Ytbjdgaeikihjbaa
