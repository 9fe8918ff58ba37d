/-
  The walk of the law HoldChecks.
  Conditions: each theorem's own premises.
-/
import Derived.Test.YtbjdgaeikihjbaaGreatLcha
namespace Go.Proofs.YtbjdgaeikihjbaaGreat
set_option linter.unusedSimpArgs false
set_option linter.unusedVariables false
open Go.RowKit
set_option maxRecDepth 100000
set_option maxHeartbeats 8000000
attribute [local go_sem] Instr.field asAgg Soft.upon Soft.BW.cell_if Soft.BW.frozen_if Soft.cell_alloc_if Soft.frozen_alloc_if

theorem L2_HoldChecks (h : Ho) (f : Fi) (w : World) (hh : h.At w) :
    Calls Tryz.prog 3 #[.agg #[.int .i64 (h).id, .int .i64 ((h).along).lo, .int .i64 ((h).along).hi, .slice ((h).vol).p ((h).vol).n ((h).vol).c, .slice ((h).mom).p ((h).mom).n ((h).mom).c, .slice ((h).hei).p ((h).hei).n ((h).hei).c, .int .i64 ((h).tri).lo, .int .i64 ((h).tri).hi, .int .i64 ((h).unt).lo, .int .i64 ((h).unt).hi, .int .i64 ((h).v0).lo, .int .i64 ((h).v0).hi, .int .i64 ((h).h0).lo, .int .i64 ((h).h0).hi], .agg #[.int .i64 (f).hold, .int .i64 (f).state, .int .i64 ((f).ull).lo, .int .i64 ((f).ull).hi, .int .i64 ((f).den).lo, .int .i64 ((f).den).hi]] w fun e w' => e = .returned (.bool true) ∧ Below w.heap.size w w' := by
  have C1 := Lib.hid (fun W hW => hold_Volume h f W hW)
  have D1 := Lib.hid (fun W hW => R2_Volume h f W hW)
  have C2 := Lib.hid (fun W hW => hold_Mass h f W hW)
  have D2 := Lib.hid (fun W hW => R2_Mass h f W hW)
  have C3 := Lib.hid (fun W hW => hold_Moment h f W hW)
  have D3 := Lib.hid (fun W hW => R2_Moment h f W hW)
  have C4 := Lib.hid (fun W hW => hold_Heel h f W hW)
  have D4 := Lib.hid (fun W hW => R2_Heel h f W hW)
  have C5 := Lib.hid (fun W hW => hold_Height h f W hW)
  have D5 := Lib.hid (fun W hW => R2_Height h f W hW)
  have C6 := Lib.hid (fun W hW => hold_Weight h f W hW)
  have D6 := Lib.hid (fun W hW => R2_Weight h f W hW)
  have C7 := Lib.hid (fun W hW => hold_CheckHold h W hW)
  have D7 := Lib.hid (fun W hW => R2_CheckHold h W hW)
  have C8 := Lib.hid (fun W hW => hold_CheckFill h f W hW)
  have D8 := Lib.hid (fun W hW => R2_CheckFill h f W hW)
  generalize volE h f = a1 at *
  generalize massE h f = a2 at *
  generalize momE h f = a3 at *
  generalize heelE h f = a4 at *
  generalize heightE h f = a5 at *
  generalize wtE h f = a6 at *
  generalize holdErr h = a7 at *
  generalize fillErr h f = a8 at *
  generalize Value.int .i64 h.id = v0 at *
  generalize Value.int .i64 h.along.lo = v1 at *
  generalize Value.int .i64 h.along.hi = v2 at *
  generalize Value.slice h.vol.p h.vol.n h.vol.c = v3 at *
  generalize Value.slice h.mom.p h.mom.n h.mom.c = v4 at *
  generalize Value.slice h.hei.p h.hei.n h.hei.c = v5 at *
  generalize Value.int .i64 h.tri.lo = v6 at *
  generalize Value.int .i64 h.tri.hi = v7 at *
  generalize Value.int .i64 h.unt.lo = v8 at *
  generalize Value.int .i64 h.unt.hi = v9 at *
  generalize Value.int .i64 h.v0.lo = v10 at *
  generalize Value.int .i64 h.v0.hi = v11 at *
  generalize Value.int .i64 h.h0.lo = v12 at *
  generalize Value.int .i64 h.h0.hi = v13 at *
  generalize Value.int .i64 f.hold = u0 at *
  generalize Value.int .i64 f.state = u1 at *
  generalize Value.int .i64 f.ull.lo = u2 at *
  generalize Value.int .i64 f.ull.hi = u3 at *
  generalize Value.int .i64 f.den.lo = u4 at *
  generalize Value.int .i64 f.den.hi = u5 at *
  go_enter Tryz.func3, Tryz.ntmps3
  go_wp2_with (first | (go_at_call 7; (with_reducible refine (C1.out _ (by with_reducible repeat (first | exact hh | refine Ho.At.alloc ?_ _ | refine Ho.At.bw ?_ _ | refine Tk.At.alloc ?_ _ | refine Tk.At.bw ?_ _))).mono ?_); rintro e w_ ⟨rfl, hb_⟩; obtain ⟨y1, rfl⟩ := Soft.BW.mk hb_; clear hb_) | (go_at_call 8; (with_reducible refine (D1.out _ (by with_reducible repeat (first | exact hh | refine Ho.At.alloc ?_ _ | refine Ho.At.bw ?_ _ | refine Tk.At.alloc ?_ _ | refine Tk.At.bw ?_ _))).mono ?_); rintro e w_ ⟨rfl, hb_⟩; obtain ⟨z1, rfl⟩ := Soft.BW.mk hb_; clear hb_) | (go_at_call 9; (with_reducible refine (C2.out _ (by with_reducible repeat (first | exact hh | refine Ho.At.alloc ?_ _ | refine Ho.At.bw ?_ _ | refine Tk.At.alloc ?_ _ | refine Tk.At.bw ?_ _))).mono ?_); rintro e w_ ⟨rfl, hb_⟩; obtain ⟨y2, rfl⟩ := Soft.BW.mk hb_; clear hb_) | (go_at_call 10; (with_reducible refine (D2.out _ (by with_reducible repeat (first | exact hh | refine Ho.At.alloc ?_ _ | refine Ho.At.bw ?_ _ | refine Tk.At.alloc ?_ _ | refine Tk.At.bw ?_ _))).mono ?_); rintro e w_ ⟨rfl, hb_⟩; obtain ⟨z2, rfl⟩ := Soft.BW.mk hb_; clear hb_) | (go_at_call 11; (with_reducible refine (C3.out _ (by with_reducible repeat (first | exact hh | refine Ho.At.alloc ?_ _ | refine Ho.At.bw ?_ _ | refine Tk.At.alloc ?_ _ | refine Tk.At.bw ?_ _))).mono ?_); rintro e w_ ⟨rfl, hb_⟩; obtain ⟨y3, rfl⟩ := Soft.BW.mk hb_; clear hb_) | (go_at_call 12; (with_reducible refine (D3.out _ (by with_reducible repeat (first | exact hh | refine Ho.At.alloc ?_ _ | refine Ho.At.bw ?_ _ | refine Tk.At.alloc ?_ _ | refine Tk.At.bw ?_ _))).mono ?_); rintro e w_ ⟨rfl, hb_⟩; obtain ⟨z3, rfl⟩ := Soft.BW.mk hb_; clear hb_) | (go_at_call 13; (with_reducible refine (C4.out _ (by with_reducible repeat (first | exact hh | refine Ho.At.alloc ?_ _ | refine Ho.At.bw ?_ _ | refine Tk.At.alloc ?_ _ | refine Tk.At.bw ?_ _))).mono ?_); rintro e w_ ⟨rfl, hb_⟩; obtain ⟨y4, rfl⟩ := Soft.BW.mk hb_; clear hb_) | (go_at_call 14; (with_reducible refine (D4.out _ (by with_reducible repeat (first | exact hh | refine Ho.At.alloc ?_ _ | refine Ho.At.bw ?_ _ | refine Tk.At.alloc ?_ _ | refine Tk.At.bw ?_ _))).mono ?_); rintro e w_ ⟨rfl, hb_⟩; obtain ⟨z4, rfl⟩ := Soft.BW.mk hb_; clear hb_) | (go_at_call 15; (with_reducible refine (C5.out _ (by with_reducible repeat (first | exact hh | refine Ho.At.alloc ?_ _ | refine Ho.At.bw ?_ _ | refine Tk.At.alloc ?_ _ | refine Tk.At.bw ?_ _))).mono ?_); rintro e w_ ⟨rfl, hb_⟩; obtain ⟨y5, rfl⟩ := Soft.BW.mk hb_; clear hb_) | (go_at_call 16; (with_reducible refine (D5.out _ (by with_reducible repeat (first | exact hh | refine Ho.At.alloc ?_ _ | refine Ho.At.bw ?_ _ | refine Tk.At.alloc ?_ _ | refine Tk.At.bw ?_ _))).mono ?_); rintro e w_ ⟨rfl, hb_⟩; obtain ⟨z5, rfl⟩ := Soft.BW.mk hb_; clear hb_) | (go_at_call 17; (with_reducible refine (C6.out _ (by with_reducible repeat (first | exact hh | refine Ho.At.alloc ?_ _ | refine Ho.At.bw ?_ _ | refine Tk.At.alloc ?_ _ | refine Tk.At.bw ?_ _))).mono ?_); rintro e w_ ⟨rfl, hb_⟩; obtain ⟨y6, rfl⟩ := Soft.BW.mk hb_; clear hb_) | (go_at_call 18; (with_reducible refine (D6.out _ (by with_reducible repeat (first | exact hh | refine Ho.At.alloc ?_ _ | refine Ho.At.bw ?_ _ | refine Tk.At.alloc ?_ _ | refine Tk.At.bw ?_ _))).mono ?_); rintro e w_ ⟨rfl, hb_⟩; obtain ⟨z6, rfl⟩ := Soft.BW.mk hb_; clear hb_))
  refine chk_last (h := h) (H := w.heap.size) (F := w.heap.size + 1) ?_ ?_ ?_ C7 D7 C8 D8 ?_
  · refine HasBlk.below (W := (w.alloc (.cells #[v0, v1, v2, v3, v4, v5, v6, v7, v8, v9, v10, v11, v12, v13] 28)).alloc (.cells #[u0, u1, u2, u3, u4, u5] 30)) (by simp only [HasBlk, Soft.BW.heap_if, Soft.heap_alloc_if, Soft.heap_new, Soft.heap_new1, Soft.heap_new2, Soft.heap_new3, Soft.heap_new4, Soft.heap_new5]) ?_
    (repeat (first | with_reducible exact bel_refl _ | with_reducible refine bel_alloc ?_ _ | with_reducible refine bel_bw _ ?_ | with_reducible refine bel_drew ?_ | with_reducible refine bel_drewN _ ?_ | ((with_reducible refine bel_set ?_ ?_ _); rotate_left; focus (first | (simp; done) | omega | (simp; omega))) | refine bel_step ?_ (by with_reducible assumption)))
  · refine HasBlk.below (W := (w.alloc (.cells #[v0, v1, v2, v3, v4, v5, v6, v7, v8, v9, v10, v11, v12, v13] 28)).alloc (.cells #[u0, u1, u2, u3, u4, u5] 30)) (by simp only [HasBlk, Soft.BW.heap_if, Soft.heap_alloc_if, Soft.heap_new, Soft.heap_new1, Soft.heap_new2, Soft.heap_new3, Soft.heap_new4, Soft.heap_new5]) ?_
    (repeat (first | with_reducible exact bel_refl _ | with_reducible refine bel_alloc ?_ _ | with_reducible refine bel_bw _ ?_ | with_reducible refine bel_drew ?_ | with_reducible refine bel_drewN _ ?_ | ((with_reducible refine bel_set ?_ ?_ _); rotate_left; focus (first | (simp; done) | omega | (simp; omega))) | refine bel_step ?_ (by with_reducible assumption)))
  · exact (by with_reducible repeat (first | exact hh | refine Ho.At.alloc ?_ _ | refine Ho.At.bw ?_ _ | refine Tk.At.alloc ?_ _ | refine Tk.At.bw ?_ _))
  · intro a W' h1 h2 hB
    rename_i Kx hk
    refine hk _ _ ?_
    go_wp2_with fail
    refine bodyPost_ret h1 h2 ⟨rfl, bel_step ?_ hB⟩
    (repeat (first | with_reducible exact bel_refl _ | with_reducible refine bel_alloc ?_ _ | with_reducible refine bel_bw _ ?_ | with_reducible refine bel_drew ?_ | with_reducible refine bel_drewN _ ?_ | ((with_reducible refine bel_set ?_ ?_ _); rotate_left; focus (first | (simp; done) | omega | (simp; omega))) | refine bel_step ?_ (by with_reducible assumption)))

end Go.Proofs.YtbjdgaeikihjbaaGreat
