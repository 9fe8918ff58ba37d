/-
  The walk of the law HoldTanks.
  Conditions: each theorem's own premises.
-/
import Derived.Test.YtbjdgaeikihjbaaGreatLtna
namespace Go.Proofs.YtbjdgaeikihjbaaGreat
set_option linter.unusedSimpArgs false
set_option linter.unusedVariables false
open Go.RowKit
set_option maxRecDepth 1000000
set_option maxHeartbeats 8000000
attribute [local go_sem] Instr.field asAgg Soft.upon Soft.BW.cell_if Soft.BW.frozen_if Soft.cell_alloc_if Soft.frozen_alloc_if

theorem L2_HoldTanks (t : Tk) (l : Lv) (m : Rg) (w : World) (hh : t.At w) :
    Calls Tryz.prog 5 #[.agg #[.int .i64 (t).id, .int .i64 ((t).along).lo, .int .i64 ((t).along).hi, .slice ((t).vol).p ((t).vol).n ((t).vol).c, .slice ((t).sur).p ((t).sur).n ((t).sur).c, .slice ((t).hei).p ((t).hei).n ((t).hei).c], .agg #[.int .i64 (l).tank, .bool (l).pressed, .int .i64 ((l).snd).lo, .int .i64 ((l).snd).hi, .int .i64 ((l).den).lo, .int .i64 ((l).den).hi], .agg #[.int .i64 (m).lo, .int .i64 (m).hi]] w fun e w' => e = .returned (.bool true) ∧ Below w.heap.size w w' := by
  have C1 := Lib.hid (fun W hW => hold_Liquid t l W hW)
  have D1 := Lib.hid (fun W hW => R2_Liquid t l W hW)
  have C2 := Lib.hid (fun W hW => hold_Surface t l W hW)
  have D2 := Lib.hid (fun W hW => R2_Surface t l W hW)
  have C3 := Lib.hid (fun W hW => hold_Ballast t l W hW)
  have D3 := Lib.hid (fun W hW => R2_Ballast t l W hW)
  have C4 := Lib.hid (fun W hW => hold_Pump t l m W hW)
  have D4 := Lib.hid (fun W hW => R2_Pump t l m W hW)
  have C7 := Lib.hid (fun W hW => hold_CheckTank t W hW)
  have D7 := Lib.hid (fun W hW => R2_CheckTank t W hW)
  have C8 := Lib.hid (fun W hW => hold_CheckLevel t l W hW)
  have D8 := Lib.hid (fun W hW => R2_CheckLevel t l W hW)
  generalize liqE t l = a1 at *
  generalize srfE t l = a2 at *
  generalize balE t l = a3 at *
  generalize pumpE t l m = a4 at *
  generalize tankErr t = a7 at *
  generalize levelErr t l = a8 at *
  obtain ⟨a1l, a1h⟩ := a1
  obtain ⟨a2l, a2h⟩ := a2
  obtain ⟨⟨z0, z1⟩, ⟨z2, z3⟩, ⟨z4, z5⟩⟩ := a3
  obtain ⟨⟨q0, q1, ⟨q2, q3⟩, ⟨q4, q5⟩⟩, a4e⟩ := a4
  dsimp only at C1 D1 C2 D2 C3 D3 C4 D4
  generalize Value.int .i64 t.id = v0 at *
  generalize Value.int .i64 t.along.lo = v1 at *
  generalize Value.int .i64 t.along.hi = v2 at *
  generalize Value.slice t.vol.p t.vol.n t.vol.c = v3 at *
  generalize Value.slice t.sur.p t.sur.n t.sur.c = v4 at *
  generalize Value.slice t.hei.p t.hei.n t.hei.c = v5 at *
  generalize Value.int .i64 l.tank = u0 at *
  generalize Value.bool l.pressed = u1 at *
  generalize Value.int .i64 l.snd.lo = u2 at *
  generalize Value.int .i64 l.snd.hi = u3 at *
  generalize Value.int .i64 l.den.lo = u4 at *
  generalize Value.int .i64 l.den.hi = u5 at *
  go_enter Tryz.func5, Tryz.ntmps5
  go_wp2_with (first | (go_at_call 28; (with_reducible refine (C1.out _ (by with_reducible repeat (first | exact hh | refine Ho.At.alloc ?_ _ | refine Ho.At.bw ?_ _ | refine Tk.At.alloc ?_ _ | refine Tk.At.bw ?_ _))).mono ?_); rintro e w_ ⟨rfl, hb_⟩; obtain ⟨s1, rfl⟩ := Soft.BW.mk hb_; clear hb_) | (go_at_call 29; (with_reducible refine (D1.out _ (by with_reducible repeat (first | exact hh | refine Ho.At.alloc ?_ _ | refine Ho.At.bw ?_ _ | refine Tk.At.alloc ?_ _ | refine Tk.At.bw ?_ _))).mono ?_); rintro e w_ ⟨rfl, hb_⟩; obtain ⟨s2, rfl⟩ := Soft.BW.mk hb_; clear hb_) | (go_at_call 30; (with_reducible refine (C2.out _ (by with_reducible repeat (first | exact hh | refine Ho.At.alloc ?_ _ | refine Ho.At.bw ?_ _ | refine Tk.At.alloc ?_ _ | refine Tk.At.bw ?_ _))).mono ?_); rintro e w_ ⟨rfl, hb_⟩; obtain ⟨s3, rfl⟩ := Soft.BW.mk hb_; clear hb_) | (go_at_call 31; (with_reducible refine (D2.out _ (by with_reducible repeat (first | exact hh | refine Ho.At.alloc ?_ _ | refine Ho.At.bw ?_ _ | refine Tk.At.alloc ?_ _ | refine Tk.At.bw ?_ _))).mono ?_); rintro e w_ ⟨rfl, hb_⟩; obtain ⟨s4, rfl⟩ := Soft.BW.mk hb_; clear hb_) | (go_at_call 32; (with_reducible refine (C3.out _ (by with_reducible repeat (first | exact hh | refine Ho.At.alloc ?_ _ | refine Ho.At.bw ?_ _ | refine Tk.At.alloc ?_ _ | refine Tk.At.bw ?_ _))).mono ?_); rintro e w_ ⟨rfl, hb_⟩; obtain ⟨s5, rfl⟩ := Soft.BW.mk hb_; clear hb_) | (go_at_call 33; (with_reducible refine (D3.out _ (by with_reducible repeat (first | exact hh | refine Ho.At.alloc ?_ _ | refine Ho.At.bw ?_ _ | refine Tk.At.alloc ?_ _ | refine Tk.At.bw ?_ _))).mono ?_); rintro e w_ ⟨rfl, hb_⟩; obtain ⟨s6, rfl⟩ := Soft.BW.mk hb_; clear hb_) | (go_at_call 34; (with_reducible refine (C4.out _ (by with_reducible repeat (first | exact hh | refine Ho.At.alloc ?_ _ | refine Ho.At.bw ?_ _ | refine Tk.At.alloc ?_ _ | refine Tk.At.bw ?_ _))).mono ?_); rintro e w_ ⟨rfl, hb_⟩; obtain ⟨s7, rfl⟩ := Soft.BW.mk hb_; clear hb_) | (go_at_call 35; (with_reducible refine (D4.out _ (by with_reducible repeat (first | exact hh | refine Ho.At.alloc ?_ _ | refine Ho.At.bw ?_ _ | refine Tk.At.alloc ?_ _ | refine Tk.At.bw ?_ _))).mono ?_); rintro e w_ ⟨rfl, hb_⟩; obtain ⟨s8, rfl⟩ := Soft.BW.mk hb_; clear hb_))
  refine tnk_last (t := t) (x0 := a1l) (x1 := a1h) (y0 := a2l) (y1 := a2h) (z0 := z0) (z1 := z1) (z2 := z2) (z3 := z3) (z4 := z4) (z5 := z5) (q0 := q0) (q1 := q1) (q2 := q2) (q3 := q3) (q4 := q4) (q5 := q5) (B3 := w.heap.size) (B4 := w.heap.size + 1) (B7 := s1.w.heap.size) (B9 := s2.w.heap.size) (B11 := s3.w.heap.size) (B13 := s4.w.heap.size) (B15 := s5.w.heap.size) (B17 := s6.w.heap.size) (B19 := s7.w.heap.size) (B21 := s8.w.heap.size) ?_ ?_ ?_ ?_ ?_ ?_ ?_ ?_ ?_ ?_ ?_ C7 D7 C8 D8 ?_
  · refine HasBlk.below (W := (w.alloc (.cells #[v0, v1, v2, v3, v4, v5] 49)).alloc (.cells #[u0, u1, u2, u3, u4, u5] 51)) (by simp only [HasBlk, Soft.BW.heap_if, Soft.heap_alloc_if, Soft.heap_new, Soft.heap_new1, Soft.heap_new2, Soft.heap_new3, Soft.heap_new4, Soft.heap_new5]) ?_
    (repeat (first | with_reducible exact bel_refl _ | with_reducible refine bel_alloc ?_ _ | with_reducible refine bel_bw _ ?_ | with_reducible refine bel_drew ?_ | with_reducible refine bel_drewN _ ?_ | ((with_reducible refine bel_set ?_ ?_ _); rotate_left; focus (first | (simp; done) | omega | (simp; omega))) | refine bel_step ?_ (by with_reducible assumption)))
  · refine HasBlk.below (W := (w.alloc (.cells #[v0, v1, v2, v3, v4, v5] 49)).alloc (.cells #[u0, u1, u2, u3, u4, u5] 51)) (by simp only [HasBlk, Soft.BW.heap_if, Soft.heap_alloc_if, Soft.heap_new, Soft.heap_new1, Soft.heap_new2, Soft.heap_new3, Soft.heap_new4, Soft.heap_new5]) ?_
    (repeat (first | with_reducible exact bel_refl _ | with_reducible refine bel_alloc ?_ _ | with_reducible refine bel_bw _ ?_ | with_reducible refine bel_drew ?_ | with_reducible refine bel_drewN _ ?_ | ((with_reducible refine bel_set ?_ ?_ _); rotate_left; focus (first | (simp; done) | omega | (simp; omega))) | refine bel_step ?_ (by with_reducible assumption)))
  · refine HasBlk.below (W := s1.w.alloc (.cells #[.int .i64 a1l, .int .i64 a1h] 23)) (Soft.heap_new _ _) ?_
    (repeat (first | with_reducible exact bel_refl _ | with_reducible refine bel_alloc ?_ _ | with_reducible refine bel_bw _ ?_ | with_reducible refine bel_drew ?_ | with_reducible refine bel_drewN _ ?_ | ((with_reducible refine bel_set ?_ ?_ _); rotate_left; focus (first | (simp; done) | omega | (simp; omega))) | refine bel_step ?_ (by with_reducible assumption)))
  · refine HasBlk.below (W := s2.w.alloc (.cells #[.int .i64 a1l, .int .i64 a1h] 23)) (Soft.heap_new _ _) ?_
    (repeat (first | with_reducible exact bel_refl _ | with_reducible refine bel_alloc ?_ _ | with_reducible refine bel_bw _ ?_ | with_reducible refine bel_drew ?_ | with_reducible refine bel_drewN _ ?_ | ((with_reducible refine bel_set ?_ ?_ _); rotate_left; focus (first | (simp; done) | omega | (simp; omega))) | refine bel_step ?_ (by with_reducible assumption)))
  · refine HasBlk.below (W := s3.w.alloc (.cells #[.int .i64 a2l, .int .i64 a2h] 23)) (Soft.heap_new _ _) ?_
    (repeat (first | with_reducible exact bel_refl _ | with_reducible refine bel_alloc ?_ _ | with_reducible refine bel_bw _ ?_ | with_reducible refine bel_drew ?_ | with_reducible refine bel_drewN _ ?_ | ((with_reducible refine bel_set ?_ ?_ _); rotate_left; focus (first | (simp; done) | omega | (simp; omega))) | refine bel_step ?_ (by with_reducible assumption)))
  · refine HasBlk.below (W := s4.w.alloc (.cells #[.int .i64 a2l, .int .i64 a2h] 23)) (Soft.heap_new _ _) ?_
    (repeat (first | with_reducible exact bel_refl _ | with_reducible refine bel_alloc ?_ _ | with_reducible refine bel_bw _ ?_ | with_reducible refine bel_drew ?_ | with_reducible refine bel_drewN _ ?_ | ((with_reducible refine bel_set ?_ ?_ _); rotate_left; focus (first | (simp; done) | omega | (simp; omega))) | refine bel_step ?_ (by with_reducible assumption)))
  · refine HasBlk.below (W := s5.w.alloc (.cells #[.int .i64 z0, .int .i64 z1, .int .i64 z2, .int .i64 z3, .int .i64 z4, .int .i64 z5] 35)) (Soft.heap_new _ _) ?_
    (repeat (first | with_reducible exact bel_refl _ | with_reducible refine bel_alloc ?_ _ | with_reducible refine bel_bw _ ?_ | with_reducible refine bel_drew ?_ | with_reducible refine bel_drewN _ ?_ | ((with_reducible refine bel_set ?_ ?_ _); rotate_left; focus (first | (simp; done) | omega | (simp; omega))) | refine bel_step ?_ (by with_reducible assumption)))
  · refine HasBlk.below (W := s6.w.alloc (.cells #[.int .i64 z0, .int .i64 z1, .int .i64 z2, .int .i64 z3, .int .i64 z4, .int .i64 z5] 35)) (Soft.heap_new _ _) ?_
    (repeat (first | with_reducible exact bel_refl _ | with_reducible refine bel_alloc ?_ _ | with_reducible refine bel_bw _ ?_ | with_reducible refine bel_drew ?_ | with_reducible refine bel_drewN _ ?_ | ((with_reducible refine bel_set ?_ ?_ _); rotate_left; focus (first | (simp; done) | omega | (simp; omega))) | refine bel_step ?_ (by with_reducible assumption)))
  · refine HasBlk.below (W := s7.w.alloc (.cells #[.int .i64 q0, .bool q1, .int .i64 q2, .int .i64 q3, .int .i64 q4, .int .i64 q5] 51)) (Soft.heap_new _ _) ?_
    (repeat (first | with_reducible exact bel_refl _ | with_reducible refine bel_alloc ?_ _ | with_reducible refine bel_bw _ ?_ | with_reducible refine bel_drew ?_ | with_reducible refine bel_drewN _ ?_ | ((with_reducible refine bel_set ?_ ?_ _); rotate_left; focus (first | (simp; done) | omega | (simp; omega))) | refine bel_step ?_ (by with_reducible assumption)))
  · refine HasBlk.below (W := s8.w.alloc (.cells #[.int .i64 q0, .bool q1, .int .i64 q2, .int .i64 q3, .int .i64 q4, .int .i64 q5] 51)) (Soft.heap_new _ _) ?_
    (repeat (first | with_reducible exact bel_refl _ | with_reducible refine bel_alloc ?_ _ | with_reducible refine bel_bw _ ?_ | with_reducible refine bel_drew ?_ | with_reducible refine bel_drewN _ ?_ | ((with_reducible refine bel_set ?_ ?_ _); rotate_left; focus (first | (simp; done) | omega | (simp; omega))) | refine bel_step ?_ (by with_reducible assumption)))
  · exact (by with_reducible repeat (first | exact hh | refine Ho.At.alloc ?_ _ | refine Ho.At.bw ?_ _ | refine Tk.At.alloc ?_ _ | refine Tk.At.bw ?_ _))
  · intro a W' h1 h2 hB
    rename_i Kx hk
    refine hk _ _ ?_
    go_wp2_with fail
    refine bodyPost_ret h1 h2 ⟨rfl, bel_step ?_ hB⟩
    (repeat (first | with_reducible exact bel_refl _ | with_reducible refine bel_alloc ?_ _ | with_reducible refine bel_bw _ ?_ | with_reducible refine bel_drew ?_ | with_reducible refine bel_drewN _ ?_ | ((with_reducible refine bel_set ?_ ?_ _); rotate_left; focus (first | (simp; done) | omega | (simp; omega))) | refine bel_step ?_ (by with_reducible assumption)))

end Go.Proofs.YtbjdgaeikihjbaaGreat
