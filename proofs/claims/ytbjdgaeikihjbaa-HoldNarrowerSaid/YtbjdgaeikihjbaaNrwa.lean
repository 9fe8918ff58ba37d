/-
  The walk of the law HoldNarrower: an empty hold.
  Conditions: each theorem's own premises.
-/
import Derived.Test.YtbjdgaeikihjbaaPart
import Derived.Test.YtbjdgaeikihjbaaDrau
import Derived.Test.YtbjdgaeikihjbaaSanf
namespace Go.Proofs.Ytbjdgaeikihjbaa
set_option linter.unusedSimpArgs false
set_option linter.unusedVariables false
open Go.RowKit
set_option maxRecDepth 100000
set_option maxHeartbeats 20000000
attribute [local go_sem] Instr.field asAgg Soft.upon Soft.BW.cell_if Soft.BW.frozen_if Soft.cell_alloc_if Soft.frozen_alloc_if

theorem nrw_a (r : Rw) (x0 x1 x2 x3 x4 n0 n1 n2 n3 n4 n5 n6 n7 : Int) (w : World) (hr : r.At w) (hst : stS x0 = 0) :
    Calls Try.prog 12 #[.agg #[.int .i64 (r).id, .int .i64 (r).first, .slice (r).steps.p (r).steps.n (r).steps.c, .slice (r).vals.p (r).vals.n (r).vals.c], .agg #[.int .i64 x0, .int .i64 x1, .int .i64 x2, .int .i64 x3, .int .i64 x4], .agg #[.int .i64 n0, .int .i64 n1, .int .i64 n2, .int .i64 n3, .int .i64 n4, .int .i64 n5, .int .i64 n6, .int .i64 n7]] w fun e w' => e = .returned (.bool true) ∧ Below w.heap.size w w' := by
  go_enter Try.func12, Try.ntmps12
  go_wp2_with fail
  refine (R2_Hold r _ (((hr.alloc _).alloc _).alloc _)).mono ?_
  rintro e w1 ⟨h, rfl, hh, hm, hb1⟩
  obtain ⟨z1, rfl⟩ := Soft.BW.mk hb1
  clear hb1
  have hok := hm.ok
  have hF := fiS_in hok x0 x1 x2 x3 x4
  have hsf := fiS_state h x0 x1 x2 x3 x4
  rw [← hsf] at hst
  have CFI : Hid (∀ W, h.At W → Calls Try.prog 16 #[.agg #[.int .i64 (h).id, .int .i64 ((h).along).lo, .int .i64 ((h).along).hi, .slice ((h).vol).p ((h).vol).n ((h).vol).c, .slice ((h).mom).p ((h).mom).n ((h).mom).c, .slice ((h).hei).p ((h).hei).n ((h).hei).c, .int .i64 ((h).tri).lo, .int .i64 ((h).tri).hi, .int .i64 ((h).unt).lo, .int .i64 ((h).unt).hi, .int .i64 ((h).v0).lo, .int .i64 ((h).v0).hi, .int .i64 ((h).h0).lo, .int .i64 ((h).h0).hi], .agg #[.int .i64 x0, .int .i64 x1, .int .i64 x2, .int .i64 x3, .int .i64 x4]] W fun e w' => e = .returned (.agg #[.int .i64 (fiS h x0 x1 x2 x3 x4).hold, .int .i64 (fiS h x0 x1 x2 x3 x4).state, .int .i64 ((fiS h x0 x1 x2 x3 x4).ull).lo, .int .i64 ((fiS h x0 x1 x2 x3 x4).ull).hi, .int .i64 ((fiS h x0 x1 x2 x3 x4).den).lo, .int .i64 ((fiS h x0 x1 x2 x3 x4).den).hi]) ∧ Below W.heap.size W w') := Lib.hid (fun W hW => R2_Fill h x0 x1 x2 x3 x4 W hW hok)
  clear hsf
  generalize fiS h x0 x1 x2 x3 x4 = f at *
  have hN : Nar h f f := ⟨hok, hF, hF, rfl, ⟨Int.le_refl _, Int.le_refl _⟩, ⟨Int.le_refl _, Int.le_refl _⟩⟩
  have d0 : (f.state != 0) = false := by rw [hst]; rfl
  have HFR := Lib.hid (show false = decide (3 ≤ f.state ∧ f.state ≤ 5) from (decide_eq_false (by omega)).symm)
  clear hst

  obtain ⟨tb1, tb2, ti1, ti2, ti3⟩ := hN.told
  have CWF : Hid (∀ W, h.At W → Calls Try.prog 34 #[.agg #[.int .i64 (h).id, .int .i64 ((h).along).lo, .int .i64 ((h).along).hi, .slice ((h).vol).p ((h).vol).n ((h).vol).c, .slice ((h).mom).p ((h).mom).n ((h).mom).c, .slice ((h).hei).p ((h).hei).n ((h).hei).c, .int .i64 ((h).tri).lo, .int .i64 ((h).tri).hi, .int .i64 ((h).unt).lo, .int .i64 ((h).unt).hi, .int .i64 ((h).v0).lo, .int .i64 ((h).v0).hi, .int .i64 ((h).h0).lo, .int .i64 ((h).h0).hi], .agg #[.int .i64 (f).hold, .int .i64 (f).state, .int .i64 ((f).ull).lo, .int .i64 ((f).ull).hi, .int .i64 ((f).den).lo, .int .i64 ((f).den).hi]] W fun e w' => e = .returned (.tuple #[.agg #[.int .i64 ((wtE h f).mass).lo, .int .i64 ((wtE h f).mass).hi, .int .i64 ((wtE h f).along).lo, .int .i64 ((wtE h f).along).hi, .int .i64 ((wtE h f).high).lo, .int .i64 ((wtE h f).high).hi], .int .i64 0]) ∧ Below W.heap.size W w') := Lib.hid (fun W hW => by have := hold_Weight h f W hW; rwa [tb1] at this)
  have CWG : Hid (∀ W, h.At W → Calls Try.prog 34 #[.agg #[.int .i64 (h).id, .int .i64 ((h).along).lo, .int .i64 ((h).along).hi, .slice ((h).vol).p ((h).vol).n ((h).vol).c, .slice ((h).mom).p ((h).mom).n ((h).mom).c, .slice ((h).hei).p ((h).hei).n ((h).hei).c, .int .i64 ((h).tri).lo, .int .i64 ((h).tri).hi, .int .i64 ((h).unt).lo, .int .i64 ((h).unt).hi, .int .i64 ((h).v0).lo, .int .i64 ((h).v0).hi, .int .i64 ((h).h0).lo, .int .i64 ((h).h0).hi], .agg #[.int .i64 (f).hold, .int .i64 (f).state, .int .i64 ((f).ull).lo, .int .i64 ((f).ull).hi, .int .i64 ((f).den).lo, .int .i64 ((f).den).hi]] W fun e w' => e = .returned (.tuple #[.agg #[.int .i64 ((wtE h f).mass).lo, .int .i64 ((wtE h f).mass).hi, .int .i64 ((wtE h f).along).lo, .int .i64 ((wtE h f).along).hi, .int .i64 ((wtE h f).high).lo, .int .i64 ((wtE h f).high).hi], .int .i64 0]) ∧ Below W.heap.size W w') := Lib.hid (fun W hW => by have := hold_Weight h f W hW; rwa [tb2] at this)
  have CHF : Hid (∀ W, h.At W → Calls Try.prog 32 #[.agg #[.int .i64 (h).id, .int .i64 ((h).along).lo, .int .i64 ((h).along).hi, .slice ((h).vol).p ((h).vol).n ((h).vol).c, .slice ((h).mom).p ((h).mom).n ((h).mom).c, .slice ((h).hei).p ((h).hei).n ((h).hei).c, .int .i64 ((h).tri).lo, .int .i64 ((h).tri).hi, .int .i64 ((h).unt).lo, .int .i64 ((h).unt).hi, .int .i64 ((h).v0).lo, .int .i64 ((h).v0).hi, .int .i64 ((h).h0).lo, .int .i64 ((h).h0).hi], .agg #[.int .i64 (f).hold, .int .i64 (f).state, .int .i64 ((f).ull).lo, .int .i64 ((f).ull).hi, .int .i64 ((f).den).lo, .int .i64 ((f).den).hi]] W fun e w' => e = .returned (.tuple #[.agg #[.int .i64 (heelE h f).lo, .int .i64 (heelE h f).hi], .int .i64 0]) ∧ Below W.heap.size W w') := Lib.hid (fun W hW => by have := hold_Heel h f W hW; rwa [tb1] at this)
  have CHG : Hid (∀ W, h.At W → Calls Try.prog 32 #[.agg #[.int .i64 (h).id, .int .i64 ((h).along).lo, .int .i64 ((h).along).hi, .slice ((h).vol).p ((h).vol).n ((h).vol).c, .slice ((h).mom).p ((h).mom).n ((h).mom).c, .slice ((h).hei).p ((h).hei).n ((h).hei).c, .int .i64 ((h).tri).lo, .int .i64 ((h).tri).hi, .int .i64 ((h).unt).lo, .int .i64 ((h).unt).hi, .int .i64 ((h).v0).lo, .int .i64 ((h).v0).hi, .int .i64 ((h).h0).lo, .int .i64 ((h).h0).hi], .agg #[.int .i64 (f).hold, .int .i64 (f).state, .int .i64 ((f).ull).lo, .int .i64 ((f).ull).hi, .int .i64 ((f).den).lo, .int .i64 ((f).den).hi]] W fun e w' => e = .returned (.tuple #[.agg #[.int .i64 (heelE h f).lo, .int .i64 (heelE h f).hi], .int .i64 0]) ∧ Below W.heap.size W w') := Lib.hid (fun W hW => by have := hold_Heel h f W hW; rwa [tb2] at this)
  have CI1 : Hid (∀ W, Calls Try.prog 27 #[.agg #[.int .i64 ((wtE h f).mass).lo, .int .i64 ((wtE h f).mass).hi], .agg #[.int .i64 ((wtE h f).mass).lo, .int .i64 ((wtE h f).mass).hi]] W fun e w' => e = .returned (.bool true) ∧ Below W.heap.size W w') := Lib.hid (fun W => R2_Inside _ _ W true (decide_eq_true (show _ ∧ _ from ti1)).symm)
  have CI2 : Hid (∀ W, Calls Try.prog 27 #[.agg #[.int .i64 ((wtE h f).high).lo, .int .i64 ((wtE h f).high).hi], .agg #[.int .i64 ((wtE h f).high).lo, .int .i64 ((wtE h f).high).hi]] W fun e w' => e = .returned (.bool true) ∧ Below W.heap.size W w') := Lib.hid (fun W => R2_Inside _ _ W true (decide_eq_true (show _ ∧ _ from ti2)).symm)
  have CI3 : Hid (∀ W, Calls Try.prog 27 #[.agg #[.int .i64 (heelE h f).lo, .int .i64 (heelE h f).hi], .agg #[.int .i64 (heelE h f).lo, .int .i64 (heelE h f).hi]] W fun e w' => e = .returned (.bool true) ∧ Below W.heap.size W w') := Lib.hid (fun W => R2_Inside _ _ W true (decide_eq_true (show _ ∧ _ from ti3)).symm)
  obtain ⟨M0, hM0⟩ : ∃ z, z = n4 % 200 := ⟨_, rfl⟩
  have m01 := Int.emod_nonneg n4 (show (200 : Int) ≠ 0 by omega)
  have m02 := Int.emod_lt_of_pos n4 (show (0 : Int) < 200 by omega)
  obtain ⟨M1, hM1⟩ : ∃ z, z = n5 % 50 := ⟨_, rfl⟩
  have m11 := Int.emod_nonneg n5 (show (50 : Int) ≠ 0 by omega)
  have m12 := Int.emod_lt_of_pos n5 (show (0 : Int) < 50 by omega)
  rw [← hM0] at m01 m02
  rw [← hM1] at m11 m12
  have CM0 := Lib.hid (fun W => Calls.bel (R2_Mod n4 200 M0 W (by omega) (by omega) hM0))
  have CM1 := Lib.hid (fun W => Calls.bel (R2_Mod n5 50 M1 W (by omega) (by omega) hM1))
  have hS := partS_in ⟨M0, M0 + M1⟩ n6 n7 (by dsimp only; omega)
  have CPM : Hid (∀ W, Calls Try.prog 55 #[.agg #[.int .i64 M0, .int .i64 (M0 + M1)], .int .i64 n6, .int .i64 n7] W fun e w' => e = .returned (.agg #[.int .i64 (partS ⟨M0, M0 + M1⟩ n6 n7).lo, .int .i64 (partS ⟨M0, M0 + M1⟩ n6 n7).hi]) ∧ Below W.heap.size W w') := Lib.hid (fun W => L2_part ⟨M0, M0 + M1⟩ n6 n7 W ⟨by dsimp only; omega, by dsimp only; omega, by dsimp only; omega⟩)
  have hR := denS_in n0 n1
  have CDE := Lib.hid (fun W => R2_Density n0 n1 W)
  generalize denS n0 n1 = R at *
  have hRR := hR
  obtain ⟨hR1, hR2, hR3⟩ := hR
  have hP := partS_in R n2 n3 hR2
  have CPR : Hid (∀ W, Calls Try.prog 55 #[.agg #[.int .i64 (R).lo, .int .i64 (R).hi], .int .i64 n2, .int .i64 n3] W fun e w' => e = .returned (.agg #[.int .i64 (partS R n2 n3).lo, .int .i64 (partS R n2 n3).hi]) ∧ Below W.heap.size W w') := Lib.hid (fun W => L2_part R n2 n3 W ⟨by omega, by omega, by omega⟩)
  generalize partS R n2 n3 = RP at *
  generalize partS ⟨M0, M0 + M1⟩ n6 n7 = LS at *
  obtain ⟨⟨hS1, hS2⟩, hS3⟩ := hS
  obtain ⟨⟨hP1, hP2⟩, hP3⟩ := hP
  have PO := Lib.hid (hN.pour (m := ⟨M0, M0 + M1⟩) (m' := LS) (d := R) (d' := RP) ⟨hS1, hS2⟩ m01 (by dsimp only; omega) (by dsimp only; omega) hS3 hRR ⟨by omega, by omega, by omega⟩ ⟨hP1, hP2⟩)
  have DR := Lib.hid (hN.draw (m := ⟨M0, M0 + M1⟩) (m' := LS) ⟨hS1, hS2⟩ m01 (by dsimp only; omega) (by dsimp only; omega) hS3)
  have CQF : Hid (∀ W, h.At W → Calls Try.prog 25 #[.agg #[.int .i64 (h).id, .int .i64 ((h).along).lo, .int .i64 ((h).along).hi, .slice ((h).vol).p ((h).vol).n ((h).vol).c, .slice ((h).mom).p ((h).mom).n ((h).mom).c, .slice ((h).hei).p ((h).hei).n ((h).hei).c, .int .i64 ((h).tri).lo, .int .i64 ((h).tri).hi, .int .i64 ((h).unt).lo, .int .i64 ((h).unt).hi, .int .i64 ((h).v0).lo, .int .i64 ((h).v0).hi, .int .i64 ((h).h0).lo, .int .i64 ((h).h0).hi], .agg #[.int .i64 (f).hold, .int .i64 (f).state, .int .i64 ((f).ull).lo, .int .i64 ((f).ull).hi, .int .i64 ((f).den).lo, .int .i64 ((f).den).hi], .agg #[.int .i64 M0, .int .i64 (M0 + M1)], .agg #[.int .i64 (R).lo, .int .i64 (R).hi]] W fun e w' => e = .returned (.tuple #[.agg #[.int .i64 ((pourE h f ⟨M0, M0 + M1⟩ R).1).hold, .int .i64 ((pourE h f ⟨M0, M0 + M1⟩ R).1).state, .int .i64 (((pourE h f ⟨M0, M0 + M1⟩ R).1).ull).lo, .int .i64 (((pourE h f ⟨M0, M0 + M1⟩ R).1).ull).hi, .int .i64 (((pourE h f ⟨M0, M0 + M1⟩ R).1).den).lo, .int .i64 (((pourE h f ⟨M0, M0 + M1⟩ R).1).den).hi], .int .i64 (pourE h f ⟨M0, M0 + M1⟩ R).2]) ∧ Below W.heap.size W w') := Lib.hid (fun W hW => hold_Pour h f ⟨M0, M0 + M1⟩ R W hW)
  have CQG : Hid (∀ W, h.At W → Calls Try.prog 25 #[.agg #[.int .i64 (h).id, .int .i64 ((h).along).lo, .int .i64 ((h).along).hi, .slice ((h).vol).p ((h).vol).n ((h).vol).c, .slice ((h).mom).p ((h).mom).n ((h).mom).c, .slice ((h).hei).p ((h).hei).n ((h).hei).c, .int .i64 ((h).tri).lo, .int .i64 ((h).tri).hi, .int .i64 ((h).unt).lo, .int .i64 ((h).unt).hi, .int .i64 ((h).v0).lo, .int .i64 ((h).v0).hi, .int .i64 ((h).h0).lo, .int .i64 ((h).h0).hi], .agg #[.int .i64 (f).hold, .int .i64 (f).state, .int .i64 ((f).ull).lo, .int .i64 ((f).ull).hi, .int .i64 ((f).den).lo, .int .i64 ((f).den).hi], .agg #[.int .i64 (LS).lo, .int .i64 (LS).hi], .agg #[.int .i64 (RP).lo, .int .i64 (RP).hi]] W fun e w' => e = .returned (.tuple #[.agg #[.int .i64 ((pourE h f LS RP).1).hold, .int .i64 ((pourE h f LS RP).1).state, .int .i64 (((pourE h f LS RP).1).ull).lo, .int .i64 (((pourE h f LS RP).1).ull).hi, .int .i64 (((pourE h f LS RP).1).den).lo, .int .i64 (((pourE h f LS RP).1).den).hi], .int .i64 (pourE h f LS RP).2]) ∧ Below W.heap.size W w') := Lib.hid (fun W hW => hold_Pour h f LS RP W hW)
  have CDF : Hid (∀ W, h.At W → Calls Try.prog 49 #[.agg #[.int .i64 (h).id, .int .i64 ((h).along).lo, .int .i64 ((h).along).hi, .slice ((h).vol).p ((h).vol).n ((h).vol).c, .slice ((h).mom).p ((h).mom).n ((h).mom).c, .slice ((h).hei).p ((h).hei).n ((h).hei).c, .int .i64 ((h).tri).lo, .int .i64 ((h).tri).hi, .int .i64 ((h).unt).lo, .int .i64 ((h).unt).hi, .int .i64 ((h).v0).lo, .int .i64 ((h).v0).hi, .int .i64 ((h).h0).lo, .int .i64 ((h).h0).hi], .agg #[.int .i64 (f).hold, .int .i64 (f).state, .int .i64 ((f).ull).lo, .int .i64 ((f).ull).hi, .int .i64 ((f).den).lo, .int .i64 ((f).den).hi], .agg #[.int .i64 M0, .int .i64 (M0 + M1)]] W fun e w' => e = .returned (.tuple #[.agg #[.int .i64 ((drawE h f ⟨M0, M0 + M1⟩).1).hold, .int .i64 ((drawE h f ⟨M0, M0 + M1⟩).1).state, .int .i64 (((drawE h f ⟨M0, M0 + M1⟩).1).ull).lo, .int .i64 (((drawE h f ⟨M0, M0 + M1⟩).1).ull).hi, .int .i64 (((drawE h f ⟨M0, M0 + M1⟩).1).den).lo, .int .i64 (((drawE h f ⟨M0, M0 + M1⟩).1).den).hi], .int .i64 (drawE h f ⟨M0, M0 + M1⟩).2]) ∧ Below W.heap.size W w') := Lib.hid (fun W hW => hold_Draw h f ⟨M0, M0 + M1⟩ W hW)
  have CDG : Hid (∀ W, h.At W → Calls Try.prog 49 #[.agg #[.int .i64 (h).id, .int .i64 ((h).along).lo, .int .i64 ((h).along).hi, .slice ((h).vol).p ((h).vol).n ((h).vol).c, .slice ((h).mom).p ((h).mom).n ((h).mom).c, .slice ((h).hei).p ((h).hei).n ((h).hei).c, .int .i64 ((h).tri).lo, .int .i64 ((h).tri).hi, .int .i64 ((h).unt).lo, .int .i64 ((h).unt).hi, .int .i64 ((h).v0).lo, .int .i64 ((h).v0).hi, .int .i64 ((h).h0).lo, .int .i64 ((h).h0).hi], .agg #[.int .i64 (f).hold, .int .i64 (f).state, .int .i64 ((f).ull).lo, .int .i64 ((f).ull).hi, .int .i64 ((f).den).lo, .int .i64 ((f).den).hi], .agg #[.int .i64 (LS).lo, .int .i64 (LS).hi]] W fun e w' => e = .returned (.tuple #[.agg #[.int .i64 ((drawE h f LS).1).hold, .int .i64 ((drawE h f LS).1).state, .int .i64 (((drawE h f LS).1).ull).lo, .int .i64 (((drawE h f LS).1).ull).hi, .int .i64 (((drawE h f LS).1).den).lo, .int .i64 (((drawE h f LS).1).den).hi], .int .i64 (drawE h f LS).2]) ∧ Below W.heap.size W w') := Lib.hid (fun W hW => hold_Draw h f LS W hW)
  clear ti1 ti2 ti3 tb1 tb2 hM0 hM1 hS1 hS2 hS3 hP1 hP2 hP3 hRR hR1 hR2 hR3 hN hm hok hF
  generalize wtE h f = A1 at *
  generalize wtE h f = A2 at *
  generalize heelE h f = A3 at *
  generalize heelE h f = A4 at *
  generalize pourE h f ⟨M0, M0 + M1⟩ R = B1 at *
  generalize pourE h f LS RP = B2 at *
  generalize drawE h f ⟨M0, M0 + M1⟩ = B3 at *
  generalize drawE h f LS = B4 at *
  obtain ⟨⟨b1h, b1s, b1u, b1d⟩, b1e⟩ := B1
  obtain ⟨⟨b2h, b2s, b2u, b2d⟩, b2e⟩ := B2
  obtain ⟨⟨b3h, b3s, b3u, b3d⟩, b3e⟩ := B3
  obtain ⟨⟨b4h, b4s, b4u, b4d⟩, b4e⟩ := B4
  dsimp only at CQF CQG CDF CDG PO DR
  go_wp2_with (first | (go_at_call 16; (with_reducible refine (CFI.out _ (by with_reducible repeat (first | exact hh | refine Ho.At.alloc ?_ _ | refine Ho.At.bw ?_ _ | refine Tk.At.alloc ?_ _ | refine Tk.At.bw ?_ _))).mono ?_); rintro e w_ ⟨rfl, hb_⟩; obtain ⟨z2, rfl⟩ := Soft.BW.mk hb_; clear hb_) | fail | (go_at_call 28; (with_reducible refine (R2_Free f.state _ _ HFR.out).mono ?_); rintro e w_ ⟨rfl, hw_⟩; subst w_) | (go_at_call 34; (with_reducible refine (CWF.out _ (by with_reducible repeat (first | exact hh | refine Ho.At.alloc ?_ _ | refine Ho.At.bw ?_ _ | refine Tk.At.alloc ?_ _ | refine Tk.At.bw ?_ _))).mono ?_); rintro e w_ ⟨rfl, hb_⟩; obtain ⟨z5, rfl⟩ := Soft.BW.mk hb_; clear hb_) | (go_at_call 34; (with_reducible refine (CWG.out _ (by with_reducible repeat (first | exact hh | refine Ho.At.alloc ?_ _ | refine Ho.At.bw ?_ _ | refine Tk.At.alloc ?_ _ | refine Tk.At.bw ?_ _))).mono ?_); rintro e w_ ⟨rfl, hb_⟩; obtain ⟨z6, rfl⟩ := Soft.BW.mk hb_; clear hb_) | (go_at_call 32; (with_reducible refine (CHF.out _ (by with_reducible repeat (first | exact hh | refine Ho.At.alloc ?_ _ | refine Ho.At.bw ?_ _ | refine Tk.At.alloc ?_ _ | refine Tk.At.bw ?_ _))).mono ?_); rintro e w_ ⟨rfl, hb_⟩; obtain ⟨z7, rfl⟩ := Soft.BW.mk hb_; clear hb_) | (go_at_call 32; (with_reducible refine (CHG.out _ (by with_reducible repeat (first | exact hh | refine Ho.At.alloc ?_ _ | refine Ho.At.bw ?_ _ | refine Tk.At.alloc ?_ _ | refine Tk.At.bw ?_ _))).mono ?_); rintro e w_ ⟨rfl, hb_⟩; obtain ⟨z8, rfl⟩ := Soft.BW.mk hb_; clear hb_) | (go_at_call 27; (with_reducible refine (CI1.out _).mono ?_); rintro e w_ ⟨rfl, hb_⟩; obtain ⟨z9, rfl⟩ := Soft.BW.mk hb_; clear hb_) | (go_at_call 27; (with_reducible refine (CI2.out _).mono ?_); rintro e w_ ⟨rfl, hb_⟩; obtain ⟨z10, rfl⟩ := Soft.BW.mk hb_; clear hb_) | (go_at_call 27; (with_reducible refine (CI3.out _).mono ?_); rintro e w_ ⟨rfl, hb_⟩; obtain ⟨z11, rfl⟩ := Soft.BW.mk hb_; clear hb_))
  clear CWF CWG CHF CHG CI1 CI2 CI3 CFI
  (refine Soft.region1 [0, 1, 2, 3, 4, 5, 6, 7, 8, 9, 10] 11 [12] _ (by kernel_rfl) (by kernel_rfl) (by kernel_rfl) rfl rfl (by kernel_rfl) ?_; change Soft.wpSoft _ _ _ _ _ [_, _, _, _, _, _, _, _, _, _, _] _; (repeat (refine Soft.soft_step (fun K hK => ?_); go_simp; (try go_bits); first | (refine hK _ ?_; clear hK K) | (apply Exists.intro; refine ⟨fun x => ?_, hK _ ?_⟩; (first | (go_at_call 37; with_reducible exact (CM0.out _)) | (go_at_call 37; with_reducible exact (CM1.out _))); clear hK K))); refine Soft.soft_nil ?_)
  refine ⟨fun b => .pointer (some ⟨b, 0, none⟩), .cells #[.int .i64 0, .int .i64 0] 30, fun x => by go_simp, fun kb xx hnew => ?_⟩
  change wpList _ _ _ [_] _ _
  obtain ⟨N1, x1, rfl, ex⟩ := newSplit hnew
  rw [ex]
  clear hnew ex xx
  refine wpList_store_row rfl 30 _ _ rfl N1.w.heap.size _ rfl rfl 30 _ (HasBlk.below (Soft.heap_new N1.w _) x1.below) (by kernel_rfl) rfl (by kernel_rfl) ?_
  obtain ⟨p1, ep1, ep2⟩ := bwStore x1 #[.int .i64 M0, .int .i64 (M0 + M1)]
  rw [ep1]
  clear ep1 ep2 x1 CM0 CM1
  go_wp2_with (first | (go_at_call 55; (with_reducible refine (CPM.out _).mono ?_); rintro e w_ ⟨rfl, hb_⟩; obtain ⟨s1, rfl⟩ := Soft.BW.mk hb_; clear hb_) | (go_at_call 17; (with_reducible refine (CDE.out _).mono ?_); rintro e w_ ⟨rfl, hb_⟩; obtain ⟨s2, rfl⟩ := Soft.BW.mk hb_; clear hb_) | (go_at_call 25; (with_reducible refine (CQF.out _ (by with_reducible repeat (first | exact hh | refine Ho.At.alloc ?_ _ | refine Ho.At.bw ?_ _ | refine Tk.At.alloc ?_ _ | refine Tk.At.bw ?_ _))).mono ?_); rintro e w_ ⟨rfl, hb_⟩; obtain ⟨s3, rfl⟩ := Soft.BW.mk hb_; clear hb_))
  clear CPM CDE CQF
  (refine Soft.region1e 12 14 [0, 1, 2, 3, 4, 5, 6, 7, 8, 9, 10, 11, 12] 13 [14, 15] _ (by kernel_rfl) (by kernel_rfl) (by intro _ _ _ _ _ _ h; dsimp +zetaDelta only [Exit.then] at h ⊢; exact Soft.bodyPost_put h) (by kernel_rfl) (by kernel_rfl) (by decide) rfl rfl (by kernel_rfl) ?_; change Soft.wpSoft _ _ _ _ _ [_, _, _, _, _, _, _, _, _, _, _, _, _] _; (repeat (refine Soft.soft_step (fun K hK => ?_); go_simp; (try go_bits); first | (refine hK _ ?_; clear hK K) | (apply Exists.intro; refine ⟨fun x => ?_, hK _ ?_⟩; (first | (go_at_call 55; with_reducible exact (CPR.out _)) | (go_at_call 25; with_reducible exact (CQG.out _ (by with_reducible repeat (first | exact hh | refine Ho.At.alloc ?_ _ | refine Ho.At.bw ?_ _ | refine Tk.At.alloc ?_ _ | refine Tk.At.bw ?_ _))))); clear hK K))); refine Soft.soft_nil ?_)
  refine ⟨fun b => .pointer (some ⟨b, 0, none⟩), .cells #[.int .i64 0, .int .i64 0, .int .i64 0, .int .i64 0, .int .i64 0, .int .i64 0] 38, fun x => by go_simp, fun kb xx hnew => ?_⟩
  change wpList _ _ _ [_, _] _ _
  obtain ⟨N2, x2, rfl, ex⟩ := newSplit hnew
  rw [ex]
  clear hnew ex xx CPR CQG
  refine wpList_store_row rfl 38 _ _ rfl N2.w.heap.size _ rfl rfl 38 _ (HasBlk.below (Soft.heap_new N2.w _) x2.below) (by kernel_rfl) rfl (by kernel_rfl) ?_
  obtain ⟨p2, ep1, ep2⟩ := bwStore x2 #[.int .i64 b2h, .int .i64 b2s, .int .i64 b2u.lo, .int .i64 b2u.hi, .int .i64 b2d.lo, .int .i64 b2d.hi]
  rw [ep1]
  clear ep1 ep2 x2
  by_cases c2 : b2e = 0
  · obtain ⟨d1, j1, j2⟩ := PO.out c2
    have CI4 : Hid (∀ W, Calls Try.prog 27 #[.agg #[.int .i64 (b2u).lo, .int .i64 (b2u).hi], .agg #[.int .i64 (b1u).lo, .int .i64 (b1u).hi]] W fun e w' => e = .returned (.bool true) ∧ Below W.heap.size W w') := Lib.hid (fun W => R2_Inside _ _ W true (decide_eq_true (show _ ∧ _ from j1)).symm)
    have CI5 : Hid (∀ W, Calls Try.prog 27 #[.agg #[.int .i64 (b2d).lo, .int .i64 (b2d).hi], .agg #[.int .i64 (b1d).lo, .int .i64 (b1d).hi]] W fun e w' => e = .returned (.bool true) ∧ Below W.heap.size W w') := Lib.hid (fun W => R2_Inside _ _ W true (decide_eq_true (show _ ∧ _ from j2)).symm)
    subst d1 c2
    clear j1 j2 PO
    by_cases c4 : b4e = 0
    · obtain ⟨d3, j3⟩ := DR.out c4
      have CI6 : Hid (∀ W, Calls Try.prog 27 #[.agg #[.int .i64 (b4u).lo, .int .i64 (b4u).hi], .agg #[.int .i64 (b3u).lo, .int .i64 (b3u).hi]] W fun e w' => e = .returned (.bool true) ∧ Below W.heap.size W w') := Lib.hid (fun W => R2_Inside _ _ W true (decide_eq_true (show _ ∧ _ from j3)).symm)
      subst d3 c4
      clear j3 DR
      go_wp2_with (first | (go_at_call 49; (with_reducible refine (CDF.out _ (by with_reducible repeat (first | exact hh | refine Ho.At.alloc ?_ _ | refine Ho.At.bw ?_ _ | refine Tk.At.alloc ?_ _ | refine Tk.At.bw ?_ _))).mono ?_); rintro e w_ ⟨rfl, hb_⟩; obtain ⟨s5, rfl⟩ := Soft.BW.mk hb_; clear hb_) | (go_at_call 49; (with_reducible refine (CDG.out _ (by with_reducible repeat (first | exact hh | refine Ho.At.alloc ?_ _ | refine Ho.At.bw ?_ _ | refine Tk.At.alloc ?_ _ | refine Tk.At.bw ?_ _))).mono ?_); rintro e w_ ⟨rfl, hb_⟩; obtain ⟨s6, rfl⟩ := Soft.BW.mk hb_; clear hb_) | (go_at_call 27; (with_reducible refine (CI4.out _).mono ?_); rintro e w_ ⟨rfl, hb_⟩; obtain ⟨s7, rfl⟩ := Soft.BW.mk hb_; clear hb_) | (go_at_call 27; (with_reducible refine (CI5.out _).mono ?_); rintro e w_ ⟨rfl, hb_⟩; obtain ⟨s8, rfl⟩ := Soft.BW.mk hb_; clear hb_) | (go_at_call 27; (with_reducible refine (CI6.out _).mono ?_); rintro e w_ ⟨rfl, hb_⟩; obtain ⟨s9, rfl⟩ := Soft.BW.mk hb_; clear hb_) | (go_at_call 23; (with_reducible refine (L2_sane _).mono ?_); rintro e w_ ⟨rfl, hb_⟩; obtain ⟨s10, rfl⟩ := Soft.BW.mk hb_; clear hb_))
      go_ret
      refine ⟨rfl, ?_⟩
      (repeat (first | with_reducible exact bel_refl _ | with_reducible refine bel_alloc ?_ _ | with_reducible refine bel_bw _ ?_ | with_reducible refine bel_drew ?_ | with_reducible refine bel_drewN _ ?_ | ((with_reducible refine bel_set ?_ ?_ _); rotate_left; focus (first | (simp; done) | omega | (simp; omega))) | refine bel_step ?_ (by with_reducible assumption)))
    · have dc4 : (b4e != 0) = true := bne_iff_ne.2 c4
      clear c4 DR
      have CI6 := CI5
      go_wp2_with (first | (go_at_call 49; (with_reducible refine (CDF.out _ (by with_reducible repeat (first | exact hh | refine Ho.At.alloc ?_ _ | refine Ho.At.bw ?_ _ | refine Tk.At.alloc ?_ _ | refine Tk.At.bw ?_ _))).mono ?_); rintro e w_ ⟨rfl, hb_⟩; obtain ⟨s5, rfl⟩ := Soft.BW.mk hb_; clear hb_) | (go_at_call 49; (with_reducible refine (CDG.out _ (by with_reducible repeat (first | exact hh | refine Ho.At.alloc ?_ _ | refine Ho.At.bw ?_ _ | refine Tk.At.alloc ?_ _ | refine Tk.At.bw ?_ _))).mono ?_); rintro e w_ ⟨rfl, hb_⟩; obtain ⟨s6, rfl⟩ := Soft.BW.mk hb_; clear hb_) | (go_at_call 27; (with_reducible refine (CI4.out _).mono ?_); rintro e w_ ⟨rfl, hb_⟩; obtain ⟨s7, rfl⟩ := Soft.BW.mk hb_; clear hb_) | (go_at_call 27; (with_reducible refine (CI5.out _).mono ?_); rintro e w_ ⟨rfl, hb_⟩; obtain ⟨s8, rfl⟩ := Soft.BW.mk hb_; clear hb_) | (go_at_call 27; (with_reducible refine (CI6.out _).mono ?_); rintro e w_ ⟨rfl, hb_⟩; obtain ⟨s9, rfl⟩ := Soft.BW.mk hb_; clear hb_) | (go_at_call 23; (with_reducible refine (L2_sane _).mono ?_); rintro e w_ ⟨rfl, hb_⟩; obtain ⟨s10, rfl⟩ := Soft.BW.mk hb_; clear hb_))
      go_ret
      refine ⟨rfl, ?_⟩
      (repeat (first | with_reducible exact bel_refl _ | with_reducible refine bel_alloc ?_ _ | with_reducible refine bel_bw _ ?_ | with_reducible refine bel_drew ?_ | with_reducible refine bel_drewN _ ?_ | ((with_reducible refine bel_set ?_ ?_ _); rotate_left; focus (first | (simp; done) | omega | (simp; omega))) | refine bel_step ?_ (by with_reducible assumption)))
  · have dc2 : (b2e != 0) = true := bne_iff_ne.2 c2
    clear c2 PO
    by_cases c4 : b4e = 0
    · obtain ⟨d3, j3⟩ := DR.out c4
      have CI6 : Hid (∀ W, Calls Try.prog 27 #[.agg #[.int .i64 (b4u).lo, .int .i64 (b4u).hi], .agg #[.int .i64 (b3u).lo, .int .i64 (b3u).hi]] W fun e w' => e = .returned (.bool true) ∧ Below W.heap.size W w') := Lib.hid (fun W => R2_Inside _ _ W true (decide_eq_true (show _ ∧ _ from j3)).symm)
      subst d3 c4
      clear j3 DR
      have CI4 := CI6
      have CI5 := CI6
      go_wp2_with (first | (go_at_call 49; (with_reducible refine (CDF.out _ (by with_reducible repeat (first | exact hh | refine Ho.At.alloc ?_ _ | refine Ho.At.bw ?_ _ | refine Tk.At.alloc ?_ _ | refine Tk.At.bw ?_ _))).mono ?_); rintro e w_ ⟨rfl, hb_⟩; obtain ⟨s5, rfl⟩ := Soft.BW.mk hb_; clear hb_) | (go_at_call 49; (with_reducible refine (CDG.out _ (by with_reducible repeat (first | exact hh | refine Ho.At.alloc ?_ _ | refine Ho.At.bw ?_ _ | refine Tk.At.alloc ?_ _ | refine Tk.At.bw ?_ _))).mono ?_); rintro e w_ ⟨rfl, hb_⟩; obtain ⟨s6, rfl⟩ := Soft.BW.mk hb_; clear hb_) | (go_at_call 27; (with_reducible refine (CI4.out _).mono ?_); rintro e w_ ⟨rfl, hb_⟩; obtain ⟨s7, rfl⟩ := Soft.BW.mk hb_; clear hb_) | (go_at_call 27; (with_reducible refine (CI5.out _).mono ?_); rintro e w_ ⟨rfl, hb_⟩; obtain ⟨s8, rfl⟩ := Soft.BW.mk hb_; clear hb_) | (go_at_call 27; (with_reducible refine (CI6.out _).mono ?_); rintro e w_ ⟨rfl, hb_⟩; obtain ⟨s9, rfl⟩ := Soft.BW.mk hb_; clear hb_) | (go_at_call 23; (with_reducible refine (L2_sane _).mono ?_); rintro e w_ ⟨rfl, hb_⟩; obtain ⟨s10, rfl⟩ := Soft.BW.mk hb_; clear hb_))
      go_ret
      refine ⟨rfl, ?_⟩
      (repeat (first | with_reducible exact bel_refl _ | with_reducible refine bel_alloc ?_ _ | with_reducible refine bel_bw _ ?_ | with_reducible refine bel_drew ?_ | with_reducible refine bel_drewN _ ?_ | ((with_reducible refine bel_set ?_ ?_ _); rotate_left; focus (first | (simp; done) | omega | (simp; omega))) | refine bel_step ?_ (by with_reducible assumption)))
    · have dc4 : (b4e != 0) = true := bne_iff_ne.2 c4
      clear c4 DR
      go_wp2_with (first | (go_at_call 49; (with_reducible refine (CDF.out _ (by with_reducible repeat (first | exact hh | refine Ho.At.alloc ?_ _ | refine Ho.At.bw ?_ _ | refine Tk.At.alloc ?_ _ | refine Tk.At.bw ?_ _))).mono ?_); rintro e w_ ⟨rfl, hb_⟩; obtain ⟨s5, rfl⟩ := Soft.BW.mk hb_; clear hb_) | (go_at_call 49; (with_reducible refine (CDG.out _ (by with_reducible repeat (first | exact hh | refine Ho.At.alloc ?_ _ | refine Ho.At.bw ?_ _ | refine Tk.At.alloc ?_ _ | refine Tk.At.bw ?_ _))).mono ?_); rintro e w_ ⟨rfl, hb_⟩; obtain ⟨s6, rfl⟩ := Soft.BW.mk hb_; clear hb_) | (go_at_call 23; (with_reducible refine (L2_sane _).mono ?_); rintro e w_ ⟨rfl, hb_⟩; obtain ⟨s10, rfl⟩ := Soft.BW.mk hb_; clear hb_))
      go_ret
      refine ⟨rfl, ?_⟩
      (repeat (first | with_reducible exact bel_refl _ | with_reducible refine bel_alloc ?_ _ | with_reducible refine bel_bw _ ?_ | with_reducible refine bel_drew ?_ | with_reducible refine bel_drewN _ ?_ | ((with_reducible refine bel_set ?_ ?_ _); rotate_left; focus (first | (simp; done) | omega | (simp; omega))) | refine bel_step ?_ (by with_reducible assumption)))

end Go.Proofs.Ytbjdgaeikihjbaa
