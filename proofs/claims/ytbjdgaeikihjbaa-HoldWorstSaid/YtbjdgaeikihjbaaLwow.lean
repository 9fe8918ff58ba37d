/-
  The walk of the law HoldWorst.
  Conditions: each theorem's own premises.
-/
import Derived.Test.YtbjdgaeikihjbaaChkw
import Derived.Test.YtbjdgaeikihjbaaSanf
import Derived.Test.YtbjdgaeikihjbaaTrut
import Derived.Deep.RegionHeld3
namespace Go.Proofs.Ytbjdgaeikihjbaa
set_option linter.unusedSimpArgs false
set_option linter.unusedVariables false
open Go.RowKit
set_option maxRecDepth 100000
set_option maxHeartbeats 20000000
attribute [local go_sem] Instr.field asAgg Soft.upon Soft.BW.cell_if Soft.BW.frozen_if Soft.cell_alloc_if Soft.frozen_alloc_if


theorem L2_HoldWorst (r : Rw) (x0 x1 x2 x3 x4 : Int) (y : Tr) (w : World) (hr : r.At w) (hy : y.At w) :
    Calls Try.prog 6 #[.agg #[.int .i64 (r).id, .int .i64 (r).first, .slice (r).steps.p (r).steps.n (r).steps.c, .slice (r).vals.p (r).vals.n (r).vals.c], .agg #[.int .i64 x0, .int .i64 x1, .int .i64 x2, .int .i64 x3, .int .i64 x4], .agg #[.slice (y).c0.p (y).c0.n (y).c0.c, .slice (y).c1.p (y).c1.n (y).c1.c, .slice (y).c2.p (y).c2.n (y).c2.c, .int .i64 (y).place, .int .i64 (y).dense]] w fun e w' => e = .returned (.bool true) ∧ Below w.heap.size w w' := by
  have hy1 := hy.c1
  go_enter Try.func6, Try.ntmps6
  go_wp2_with fail
  refine (R2_Hold r _ (((hr.alloc _).alloc _).alloc _)).mono ?_
  rintro e w1 ⟨h, rfl, hh, hm, hb1⟩
  obtain ⟨z1, rfl⟩ := Soft.BW.mk hb1
  clear hb1
  have hok := hm.ok
  have hF0 := fiS_in hok x0 x1 x2 x3 x4
  have HOK := Lib.hid hok
  have CFI : Hid (∀ W, h.At W → Calls Try.prog 16 #[.agg #[.int .i64 (h).id, .int .i64 ((h).along).lo, .int .i64 ((h).along).hi, .slice ((h).vol).p ((h).vol).n ((h).vol).c, .slice ((h).mom).p ((h).mom).n ((h).mom).c, .slice ((h).hei).p ((h).hei).n ((h).hei).c, .int .i64 ((h).tri).lo, .int .i64 ((h).tri).hi, .int .i64 ((h).unt).lo, .int .i64 ((h).unt).hi, .int .i64 ((h).v0).lo, .int .i64 ((h).v0).hi, .int .i64 ((h).h0).lo, .int .i64 ((h).h0).hi], .agg #[.int .i64 x0, .int .i64 x1, .int .i64 x2, .int .i64 x3, .int .i64 x4]] W fun e w' => e = .returned (.agg #[.int .i64 (fiS h x0 x1 x2 x3 x4).hold, .int .i64 (fiS h x0 x1 x2 x3 x4).state, .int .i64 ((fiS h x0 x1 x2 x3 x4).ull).lo, .int .i64 ((fiS h x0 x1 x2 x3 x4).ull).hi, .int .i64 ((fiS h x0 x1 x2 x3 x4).den).lo, .int .i64 ((fiS h x0 x1 x2 x3 x4).den).hi]) ∧ Below W.heap.size W w') := Lib.hid (fun W hW => R2_Fill h x0 x1 x2 x3 x4 W hW HOK.out)
  generalize fiS h x0 x1 x2 x3 x4 = f at *
  have hst := state_in hF0
  have WO := worst_plain hok hF0
  obtain ⟨we, wc, wy, wn, ⟨wr1, wr2⟩, wz, wa⟩ := WO
  have CW : Hid (∀ W, h.At W → Calls Try.prog 40 #[.agg #[.int .i64 (h).id, .int .i64 ((h).along).lo, .int .i64 ((h).along).hi, .slice ((h).vol).p ((h).vol).n ((h).vol).c, .slice ((h).mom).p ((h).mom).n ((h).mom).c, .slice ((h).hei).p ((h).hei).n ((h).hei).c, .int .i64 ((h).tri).lo, .int .i64 ((h).tri).hi, .int .i64 ((h).unt).lo, .int .i64 ((h).unt).hi, .int .i64 ((h).v0).lo, .int .i64 ((h).v0).hi, .int .i64 ((h).h0).lo, .int .i64 ((h).h0).hi], .agg #[.int .i64 (f).hold, .int .i64 (f).state, .int .i64 ((f).ull).lo, .int .i64 ((f).ull).hi, .int .i64 ((f).den).lo, .int .i64 ((f).den).hi]] W fun e w' => e = .returned (.tuple #[.int .i64 (wrsE h f).1, .int .i64 (wrsE h f).2, .int .i64 0]) ∧ Below W.heap.size W w') := Lib.hid (fun W hW => by have := hold_Worst h f W hW; rwa [we] at this)
  have CM : Hid (∀ W, h.At W → Calls Try.prog 31 #[.agg #[.int .i64 (h).id, .int .i64 ((h).along).lo, .int .i64 ((h).along).hi, .slice ((h).vol).p ((h).vol).n ((h).vol).c, .slice ((h).mom).p ((h).mom).n ((h).mom).c, .slice ((h).hei).p ((h).hei).n ((h).hei).c, .int .i64 ((h).tri).lo, .int .i64 ((h).tri).hi, .int .i64 ((h).unt).lo, .int .i64 ((h).unt).hi, .int .i64 ((h).v0).lo, .int .i64 ((h).v0).hi, .int .i64 ((h).h0).lo, .int .i64 ((h).h0).hi], .agg #[.int .i64 (f).hold, .int .i64 (f).state, .int .i64 ((f).ull).lo, .int .i64 ((f).ull).hi, .int .i64 ((f).den).lo, .int .i64 ((f).den).hi]] W fun e w' => e = .returned (.tuple #[.agg #[.int .i64 (momE h f).lo, .int .i64 (wrsE h f).2], .int .i64 0]) ∧ Below W.heap.size W w') := Lib.hid (fun W hW => by have := hold_Moment h f W hW; rwa [we, ← wc] at this)
  have CY : Hid (∀ W, h.At W → Calls Try.prog 41 #[.agg #[.int .i64 (h).id, .int .i64 ((h).along).lo, .int .i64 ((h).along).hi, .slice ((h).vol).p ((h).vol).n ((h).vol).c, .slice ((h).mom).p ((h).mom).n ((h).mom).c, .slice ((h).hei).p ((h).hei).n ((h).hei).c, .int .i64 ((h).tri).lo, .int .i64 ((h).tri).hi, .int .i64 ((h).unt).lo, .int .i64 ((h).unt).hi, .int .i64 ((h).v0).lo, .int .i64 ((h).v0).hi, .int .i64 ((h).h0).lo, .int .i64 ((h).h0).hi], .agg #[.int .i64 (f).hold, .int .i64 (f).state, .int .i64 ((f).ull).lo, .int .i64 ((f).ull).hi, .int .i64 ((f).den).lo, .int .i64 ((f).den).hi], .int .i64 (wrsE h f).1, .int .i64 (wrsE h f).2] W fun e w' => e = .returned (.int .i64 0) ∧ Below W.heap.size W w') := Lib.hid (fun W hW => by have := hold_CheckWorst h f (wrsE h f).1 (wrsE h f).2 W hW; rwa [wy] at this)
  have CN : Hid (∀ W, h.At W → Calls Try.prog 41 #[.agg #[.int .i64 (h).id, .int .i64 ((h).along).lo, .int .i64 ((h).along).hi, .slice ((h).vol).p ((h).vol).n ((h).vol).c, .slice ((h).mom).p ((h).mom).n ((h).mom).c, .slice ((h).hei).p ((h).hei).n ((h).hei).c, .int .i64 ((h).tri).lo, .int .i64 ((h).tri).hi, .int .i64 ((h).unt).lo, .int .i64 ((h).unt).hi, .int .i64 ((h).v0).lo, .int .i64 ((h).v0).hi, .int .i64 ((h).h0).lo, .int .i64 ((h).h0).hi], .agg #[.int .i64 (f).hold, .int .i64 (f).state, .int .i64 ((f).ull).lo, .int .i64 ((f).ull).hi, .int .i64 ((f).den).lo, .int .i64 ((f).den).hi], .int .i64 (wrsE h f).1, .int .i64 ((wrsE h f).2 + 1)] W fun e w' => e = .returned (.int .i64 1) ∧ Below W.heap.size W w') := Lib.hid (fun W hW => by have := hold_CheckWorst h f (wrsE h f).1 ((wrsE h f).2 + 1) W hW; rwa [wn] at this)
  have hcov : f.state = 3 → ∀ (l : List Int), CurveIn h.mom.ps l → ∀ x, f.ull.lo ≤ x ∧ x ≤ f.ull.hi → valN h.mom.ps l x ≤ (wrsE h f).2 * valD h.mom.ps x := fun h3 l hl x hx => by
    obtain ⟨_, hp, _⟩ := fill_free hF0 (by omega)
    obtain ⟨_, ⟨t2, s2⟩, _⟩ := hok.tabs
    rw [← s2.1, ← s2.2] at hp
    rw [wc, show momE h f = (overE h.mom.ps f.ull).1 by unfold momE momS; rw [if_pos we, if_neg (by omega), if_neg (by omega), if_pos h3]]
    exact (curve_over t2 hp hl hx).2
  clear we wc wy wn
  generalize momE h f = C at *
  generalize wrsE h f = wx at *
  obtain ⟨wat, wm⟩ := wx
  dsimp only at *
  by_cases h3 : f.state = 3
  · obtain ⟨_, hpart, hden⟩ := fill_free hF0 (by omega)
    have hu := somS_in f.ull y.place hpart.2.1
    have hend := hok.tabs.1.ok.ends
    have CU : Hid (∀ W, Calls Try.prog 19 #[.agg #[.int .i64 (f.ull).lo, .int .i64 (f.ull).hi], .int .i64 y.place] W fun e w' => e = .returned (.int .i64 (somS f.ull y.place)) ∧ Below W.heap.size W w') := Lib.hid (fun W => L2_somewhere _ _ W ⟨by have := hpart.1; omega, hpart.2.1, by have := hpart.2.2; omega⟩)
    generalize somS f.ull y.place = u at *
    obtain ⟨t1, ⟨t2, s2⟩, ⟨t3, s3⟩⟩ := hok.tabs
    have hl1 := curS_in t2.ok y.c1.xs
    have x1_ : firstX h.vol.ps ≤ u ∧ u ≤ lastX h.vol.ps := ⟨by have := hpart.1; omega, by have := hpart.2.2; omega⟩
    have x2_ : firstX h.mom.ps ≤ u ∧ u ≤ lastX h.mom.ps := by rw [s2.1, s2.2]; exact x1_
    have CV1 := Lib.hid (fun W => R2_CurveAt h.mom y.c1 u W t2 x2_)
    have hc1 := hcov h3 _ hl1 u hu
    obtain ⟨b1, b2, b3, b4⟩ := val_bd hm.mom hm.xs.1 t2 hl1 (x := u) x2_.1 x2_.2
    obtain ⟨a1, a2⟩ := wa h3
    have d3 : (f.state != 3) = false := by rw [h3]; rfl
    clear hF0 hok hm hl1 hu hend hpart hden t1 t2 t3 s2 s3 x1_ x2_ hst wz wa hcov h3
    have hv1 := hh.2.1
    go_wp2_with (first | (go_at_call 16; (with_reducible refine (CFI.out _ (by with_reducible repeat (first | exact hh | refine Ho.At.alloc ?_ _ | refine Ho.At.bw ?_ _ | refine Tk.At.alloc ?_ _ | refine Tk.At.bw ?_ _))).mono ?_); rintro e w_ ⟨rfl, hb_⟩; obtain ⟨z2, rfl⟩ := Soft.BW.mk hb_; clear hb_) | (go_at_call 40; (with_reducible refine (CW.out _ (by with_reducible repeat (first | exact hh | refine Ho.At.alloc ?_ _ | refine Ho.At.bw ?_ _ | refine Tk.At.alloc ?_ _ | refine Tk.At.bw ?_ _))).mono ?_); rintro e w_ ⟨rfl, hb_⟩; obtain ⟨z3, rfl⟩ := Soft.BW.mk hb_; clear hb_) | (go_at_call 31; (with_reducible refine (CM.out _ (by with_reducible repeat (first | exact hh | refine Ho.At.alloc ?_ _ | refine Ho.At.bw ?_ _ | refine Tk.At.alloc ?_ _ | refine Tk.At.bw ?_ _))).mono ?_); rintro e w_ ⟨rfl, hb_⟩; obtain ⟨z4, rfl⟩ := Soft.BW.mk hb_; clear hb_) | (go_at_call 41; (with_reducible refine (CY.out _ (by with_reducible repeat (first | exact hh | refine Ho.At.alloc ?_ _ | refine Ho.At.bw ?_ _ | refine Tk.At.alloc ?_ _ | refine Tk.At.bw ?_ _))).mono ?_); rintro e w_ ⟨rfl, hb_⟩; obtain ⟨z5, rfl⟩ := Soft.BW.mk hb_; clear hb_) | (go_at_call 41; (with_reducible refine (CN.out _ (by with_reducible repeat (first | exact hh | refine Ho.At.alloc ?_ _ | refine Ho.At.bw ?_ _ | refine Tk.At.alloc ?_ _ | refine Tk.At.bw ?_ _))).mono ?_); rintro e w_ ⟨rfl, hb_⟩; obtain ⟨z6, rfl⟩ := Soft.BW.mk hb_; clear hb_))
    go_region_held3 (fun W => W.cell? ⟨z1.w.heap.size, 4, none⟩ = some (.slice h.mom.p h.mom.n h.mom.c) ∧ W.cell? ⟨w.heap.size + 1 + 1, 1, none⟩ = some (.slice y.c1.p y.c1.n y.c1.c) ∧ W.cell? ⟨w.heap.size + 1 + 1, 3, none⟩ = some (.int .i64 y.place) ∧ W.cell? ⟨z2.w.heap.size, 2, none⟩ = some (.int .i64 f.ull.lo) ∧ W.cell? ⟨z2.w.heap.size, 3, none⟩ = some (.int .i64 f.ull.hi))
      (first | (go_simp; done) | go_keep)
      (first | (go_at_call 21; refine ((CV1.out _).1 (by with_reducible repeat (first | exact hv1 | refine Tb.At.alloc ?_ _ | refine Tb.At.bw ?_ _ | refine Tb.At.drew ?_)) (by with_reducible repeat (first | exact hy1 | refine Is.At.alloc ?_ _ | refine Is.At.bw ?_ _ | refine Is.At.drew ?_))).mono ?_; rintro e w_ ⟨cg, cn, cc, rfl, hcg, hcat, hb_⟩; obtain ⟨sC, rfl⟩ := Soft.BW.mk hb_; clear hb_ hcg) | (go_at_call 22; refine ((CV1.out _).2 _ _ _ (by with_reducible repeat (first | exact hv1 | refine Tb.At.alloc ?_ _ | refine Tb.At.bw ?_ _ | refine Tb.At.drew ?_)) (by with_reducible repeat (first | exact hcat | refine Is.At.alloc ?_ _ | refine Is.At.bw ?_ _ | refine Is.At.drew ?_))).mono ?_; rintro e w_ ⟨rfl, hb_⟩; obtain ⟨sV, rfl⟩ := Soft.BW.mk hb_; clear hb_) | (go_at_call 19; (with_reducible refine (CU.out _).mono ?_); rintro e w_ ⟨rfl, hb_⟩; obtain ⟨sU, rfl⟩ := Soft.BW.mk hb_; clear hb_))
    all_goals
      clear CV1 CU
      generalize valN h.mom.ps (curS h.mom.ps y.c1.xs h.mom.ps.length) u = m0 at *
      generalize valD h.mom.ps u = o at *
      have g1 := Int.mul_nonneg wr1 (show 0 ≤ o by omega)
      have g2 : wm * o ≤ 100000000000 := by have := Int.mul_le_mul wr2 b4 (by omega) (by omega); omega
      go_wp2_with (first | (go_at_call 23; (with_reducible refine (L2_sane _).mono ?_); rintro e w_ ⟨rfl, hb_⟩; obtain ⟨b6, rfl⟩ := Soft.BW.mk hb_; clear hb_))
      go_ret
      refine ⟨rfl, ?_⟩
      (repeat (first | with_reducible exact bel_refl _ | with_reducible refine bel_alloc ?_ _ | with_reducible refine bel_bw _ ?_ | with_reducible refine bel_drew ?_ | with_reducible refine bel_drewN _ ?_ | ((with_reducible refine bel_set ?_ ?_ _); rotate_left; focus (first | (simp; done) | omega | (simp; omega))) | refine bel_step ?_ (by with_reducible assumption)))
  · have d3 : (f.state != 3) = true := bne_iff_ne.2 h3
    have dz : (wat == 0) = true := by rw [wz h3]; rfl
    clear hF0 hok hm hst wz wa hcov h3
    go_wp2_with (first | (go_at_call 16; (with_reducible refine (CFI.out _ (by with_reducible repeat (first | exact hh | refine Ho.At.alloc ?_ _ | refine Ho.At.bw ?_ _ | refine Tk.At.alloc ?_ _ | refine Tk.At.bw ?_ _))).mono ?_); rintro e w_ ⟨rfl, hb_⟩; obtain ⟨z2, rfl⟩ := Soft.BW.mk hb_; clear hb_) | (go_at_call 40; (with_reducible refine (CW.out _ (by with_reducible repeat (first | exact hh | refine Ho.At.alloc ?_ _ | refine Ho.At.bw ?_ _ | refine Tk.At.alloc ?_ _ | refine Tk.At.bw ?_ _))).mono ?_); rintro e w_ ⟨rfl, hb_⟩; obtain ⟨z3, rfl⟩ := Soft.BW.mk hb_; clear hb_) | (go_at_call 31; (with_reducible refine (CM.out _ (by with_reducible repeat (first | exact hh | refine Ho.At.alloc ?_ _ | refine Ho.At.bw ?_ _ | refine Tk.At.alloc ?_ _ | refine Tk.At.bw ?_ _))).mono ?_); rintro e w_ ⟨rfl, hb_⟩; obtain ⟨z4, rfl⟩ := Soft.BW.mk hb_; clear hb_) | (go_at_call 41; (with_reducible refine (CY.out _ (by with_reducible repeat (first | exact hh | refine Ho.At.alloc ?_ _ | refine Ho.At.bw ?_ _ | refine Tk.At.alloc ?_ _ | refine Tk.At.bw ?_ _))).mono ?_); rintro e w_ ⟨rfl, hb_⟩; obtain ⟨z5, rfl⟩ := Soft.BW.mk hb_; clear hb_) | (go_at_call 41; (with_reducible refine (CN.out _ (by with_reducible repeat (first | exact hh | refine Ho.At.alloc ?_ _ | refine Ho.At.bw ?_ _ | refine Tk.At.alloc ?_ _ | refine Tk.At.bw ?_ _))).mono ?_); rintro e w_ ⟨rfl, hb_⟩; obtain ⟨z6, rfl⟩ := Soft.BW.mk hb_; clear hb_) | (go_at_call 23; (with_reducible refine (L2_sane _).mono ?_); rintro e w_ ⟨rfl, hb_⟩; obtain ⟨s1, rfl⟩ := Soft.BW.mk hb_; clear hb_))
    go_ret
    refine ⟨rfl, ?_⟩
    (repeat (first | with_reducible exact bel_refl _ | with_reducible refine bel_alloc ?_ _ | with_reducible refine bel_bw _ ?_ | with_reducible refine bel_drew ?_ | with_reducible refine bel_drewN _ ?_ | ((with_reducible refine bel_set ?_ ?_ _); rotate_left; focus (first | (simp; done) | omega | (simp; omega))) | refine bel_step ?_ (by with_reducible assumption)))

end Go.Proofs.Ytbjdgaeikihjbaa
