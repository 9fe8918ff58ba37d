/-
  The reference's volume, height, heavy, and what it says of a fill: Volume, Mass, Moment, Heel, Height, Weight.
  Conditions: each theorem's own premises.
-/
import Derived.Test.YtbjdgaeikihjbaaGreatRfp
import Derived.Test.YtbjdgaeikihjbaaGreatTold
namespace Go.Proofs.YtbjdgaeikihjbaaGreat
set_option linter.unusedSimpArgs false
set_option linter.unusedVariables false
open Go.RowKit
set_option maxRecDepth 100000
set_option maxHeartbeats 4000000
attribute [local go_sem] Instr.field asAgg Soft.upon Soft.BW.cell_if Soft.BW.frozen_if Soft.cell_alloc_if Soft.frozen_alloc_if

theorem R2_volume (h : Ho) (f : Fi) (w : World) (hh : h.At w) (h0 : HoldOk h) (h1 : FillIn h f) :
    Calls Tryz.prog 45 #[.agg #[.int .i64 (h).id, .int .i64 ((h).along).lo, .int .i64 ((h).along).hi, .slice ((h).vol).p ((h).vol).n ((h).vol).c, .slice ((h).mom).p ((h).mom).n ((h).mom).c, .slice ((h).hei).p ((h).hei).n ((h).hei).c, .int .i64 ((h).tri).lo, .int .i64 ((h).tri).hi, .int .i64 ((h).unt).lo, .int .i64 ((h).unt).hi, .int .i64 ((h).v0).lo, .int .i64 ((h).v0).hi, .int .i64 ((h).h0).lo, .int .i64 ((h).h0).hi], .agg #[.int .i64 (f).hold, .int .i64 (f).state, .int .i64 ((f).ull).lo, .int .i64 ((f).ull).hi, .int .i64 ((f).den).lo, .int .i64 ((f).den).hi]] w fun e w' => e = .returned (.agg #[.int .i64 (volS h f).lo, .int .i64 (volS h f).hi]) ∧ Below w.heap.size w w' := by
  obtain ⟨ta, tb, tc⟩ := hh
  have hh : h.At w := ⟨ta, tb, tc⟩
  have hst := state_in h1
  by_cases z0 : f.state = 0
  · have HV := Lib.hid (show volS h f = ⟨0, 0⟩ by unfold volS fillS; rw [if_neg (by omega), if_neg (by omega)])
    have d0 : (f.state == 0) = true := by rw [z0]; rfl
    clear h0 h1 z0 hst
    go_enter Tryz.func45, Tryz.ntmps45
    go_wp2_with fail
    rw [HV.out]
    refine bodyPost_ret (v := .agg #[.int .i64 0, .int .i64 0]) (by simp [results, Tryz.results45, go_sem]) rfl ?_
    refine ⟨rfl, ?_⟩
    (repeat (first | with_reducible exact bel_refl _ | with_reducible refine bel_alloc ?_ _ | with_reducible refine bel_bw _ ?_ | with_reducible refine bel_drew ?_ | with_reducible refine bel_drewN _ ?_ | ((with_reducible refine bel_set ?_ ?_ _); rotate_left; focus (first | (simp; done) | omega | (simp; omega))) | refine bel_step ?_ (by with_reducible assumption)))
  · have d0 : (f.state == 0) = false := beq_eq_false_iff_ne.2 z0
    by_cases z1 : 1 ≤ f.state ∧ f.state ≤ 2
    · have HV := Lib.hid (show volS h f = h.v0 by unfold volS fillS; rw [if_pos (by omega)])
      have HF := Lib.hid (decide_eq_true z1).symm
      clear h0 h1 z0 z1 hst
      go_enter Tryz.func45, Tryz.ntmps45
      go_wp2_with ((go_at_call 68; (with_reducible refine (R2_Filled f.state _ true HF.out).mono ?_); rintro e w_ ⟨rfl, hw_⟩; subst w_))
      rw [HV.out]
      refine bodyPost_ret (v := .agg #[.int .i64 h.v0.lo, .int .i64 h.v0.hi]) (by simp [results, Tryz.results45, go_sem]) rfl ?_
      refine ⟨rfl, ?_⟩
      (repeat (first | with_reducible exact bel_refl _ | with_reducible refine bel_alloc ?_ _ | with_reducible refine bel_bw _ ?_ | with_reducible refine bel_drew ?_ | with_reducible refine bel_drewN _ ?_ | ((with_reducible refine bel_set ?_ ?_ _); rotate_left; focus (first | (simp; done) | omega | (simp; omega))) | refine bel_step ?_ (by with_reducible assumption)))
    · have HV := Lib.hid (show volS h f = (overE h.vol.ps f.ull).1 by unfold volS fillS; rw [if_neg (by omega), if_pos (by omega)])
      have HF := Lib.hid (decide_eq_false z1).symm
      obtain ⟨_, hp, _⟩ := fill_free h1 (by omega)
      have t2 := h0.tabs.1
      skip
      have CO := Lib.hid (fun W hW => R2_over h.vol f.ull W hW t2 hp)
      rw [HV.out]
      clear h0 h1 z0 z1 t2 hp HV hst
      generalize (overE h.vol.ps f.ull).1 = rr at *
      go_enter Tryz.func45, Tryz.ntmps45
      go_wp2_with (first | (go_at_call 68; (with_reducible refine (R2_Filled f.state _ false HF.out).mono ?_); rintro e w_ ⟨rfl, hw_⟩; subst w_) | (go_at_call 87; (with_reducible refine (CO.out _ (by repeat (first | exact ta | exact tb | exact tc | refine Tb.At.alloc ?_ _ | refine Tb.At.bw ?_ _))).mono ?_); rintro e w_ ⟨rfl, hb_⟩; obtain ⟨y1, rfl⟩ := Soft.BW.mk hb_; clear hb_))
      refine bodyPost_ret (v := .agg #[.int .i64 rr.lo, .int .i64 rr.hi]) (by simp [results, Tryz.results45, go_sem]) rfl ?_
      refine ⟨rfl, ?_⟩
      (repeat (first | with_reducible exact bel_refl _ | with_reducible refine bel_alloc ?_ _ | with_reducible refine bel_bw _ ?_ | with_reducible refine bel_drew ?_ | with_reducible refine bel_drewN _ ?_ | ((with_reducible refine bel_set ?_ ?_ _); rotate_left; focus (first | (simp; done) | omega | (simp; omega))) | refine bel_step ?_ (by with_reducible assumption)))
theorem R2_height (h : Ho) (f : Fi) (w : World) (hh : h.At w) (h0 : HoldOk h) (h1 : FillIn h f) :
    Calls Tryz.prog 52 #[.agg #[.int .i64 (h).id, .int .i64 ((h).along).lo, .int .i64 ((h).along).hi, .slice ((h).vol).p ((h).vol).n ((h).vol).c, .slice ((h).mom).p ((h).mom).n ((h).mom).c, .slice ((h).hei).p ((h).hei).n ((h).hei).c, .int .i64 ((h).tri).lo, .int .i64 ((h).tri).hi, .int .i64 ((h).unt).lo, .int .i64 ((h).unt).hi, .int .i64 ((h).v0).lo, .int .i64 ((h).v0).hi, .int .i64 ((h).h0).lo, .int .i64 ((h).h0).hi], .agg #[.int .i64 (f).hold, .int .i64 (f).state, .int .i64 ((f).ull).lo, .int .i64 ((f).ull).hi, .int .i64 ((f).den).lo, .int .i64 ((f).den).hi]] w fun e w' => e = .returned (.agg #[.int .i64 (heightS h f).lo, .int .i64 (heightS h f).hi]) ∧ Below w.heap.size w w' := by
  obtain ⟨ta, tb, tc⟩ := hh
  have hh : h.At w := ⟨ta, tb, tc⟩
  have hst := state_in h1
  by_cases z0 : f.state = 0
  · have HV := Lib.hid (show heightS h f = ⟨0, 0⟩ by unfold heightS fillS; rw [if_neg (by omega), if_neg (by omega)])
    have d0 : (f.state == 0) = true := by rw [z0]; rfl
    clear h0 h1 z0 hst
    go_enter Tryz.func52, Tryz.ntmps52
    go_wp2_with fail
    rw [HV.out]
    refine bodyPost_ret (v := .agg #[.int .i64 0, .int .i64 0]) (by simp [results, Tryz.results52, go_sem]) rfl ?_
    refine ⟨rfl, ?_⟩
    (repeat (first | with_reducible exact bel_refl _ | with_reducible refine bel_alloc ?_ _ | with_reducible refine bel_bw _ ?_ | with_reducible refine bel_drew ?_ | with_reducible refine bel_drewN _ ?_ | ((with_reducible refine bel_set ?_ ?_ _); rotate_left; focus (first | (simp; done) | omega | (simp; omega))) | refine bel_step ?_ (by with_reducible assumption)))
  · have d0 : (f.state == 0) = false := beq_eq_false_iff_ne.2 z0
    by_cases z1 : 1 ≤ f.state ∧ f.state ≤ 2
    · have HV := Lib.hid (show heightS h f = h.h0 by unfold heightS fillS; rw [if_pos (by omega)])
      have HF := Lib.hid (decide_eq_true z1).symm
      clear h0 h1 z0 z1 hst
      go_enter Tryz.func52, Tryz.ntmps52
      go_wp2_with ((go_at_call 68; (with_reducible refine (R2_Filled f.state _ true HF.out).mono ?_); rintro e w_ ⟨rfl, hw_⟩; subst w_))
      rw [HV.out]
      refine bodyPost_ret (v := .agg #[.int .i64 h.h0.lo, .int .i64 h.h0.hi]) (by simp [results, Tryz.results52, go_sem]) rfl ?_
      refine ⟨rfl, ?_⟩
      (repeat (first | with_reducible exact bel_refl _ | with_reducible refine bel_alloc ?_ _ | with_reducible refine bel_bw _ ?_ | with_reducible refine bel_drew ?_ | with_reducible refine bel_drewN _ ?_ | ((with_reducible refine bel_set ?_ ?_ _); rotate_left; focus (first | (simp; done) | omega | (simp; omega))) | refine bel_step ?_ (by with_reducible assumption)))
    · have HV := Lib.hid (show heightS h f = (overE h.hei.ps f.ull).1 by unfold heightS fillS; rw [if_neg (by omega), if_pos (by omega)])
      have HF := Lib.hid (decide_eq_false z1).symm
      obtain ⟨_, hp, _⟩ := fill_free h1 (by omega)
      have t2 := h0.tabs.2.2.1
      rw [← h0.tabs.2.2.2.1, ← h0.tabs.2.2.2.2] at hp
      have CO := Lib.hid (fun W hW => R2_over h.hei f.ull W hW t2 hp)
      rw [HV.out]
      clear h0 h1 z0 z1 t2 hp HV hst
      generalize (overE h.hei.ps f.ull).1 = rr at *
      go_enter Tryz.func52, Tryz.ntmps52
      go_wp2_with (first | (go_at_call 68; (with_reducible refine (R2_Filled f.state _ false HF.out).mono ?_); rintro e w_ ⟨rfl, hw_⟩; subst w_) | (go_at_call 87; (with_reducible refine (CO.out _ (by repeat (first | exact ta | exact tb | exact tc | refine Tb.At.alloc ?_ _ | refine Tb.At.bw ?_ _))).mono ?_); rintro e w_ ⟨rfl, hb_⟩; obtain ⟨y1, rfl⟩ := Soft.BW.mk hb_; clear hb_))
      refine bodyPost_ret (v := .agg #[.int .i64 rr.lo, .int .i64 rr.hi]) (by simp [results, Tryz.results52, go_sem]) rfl ?_
      refine ⟨rfl, ?_⟩
      (repeat (first | with_reducible exact bel_refl _ | with_reducible refine bel_alloc ?_ _ | with_reducible refine bel_bw _ ?_ | with_reducible refine bel_drew ?_ | with_reducible refine bel_drewN _ ?_ | ((with_reducible refine bel_set ?_ ?_ _); rotate_left; focus (first | (simp; done) | omega | (simp; omega))) | refine bel_step ?_ (by with_reducible assumption)))

theorem R2_heavy (v d : Rg) (w : World) (hv : RgIn v 0 1000000000) (hd : RgIn d 0 2000) :
    Calls Tryz.prog 47 #[.agg #[.int .i64 (v).lo, .int .i64 (v).hi], .agg #[.int .i64 (d).lo, .int .i64 (d).hi]] w fun e w' => e = .returned (.agg #[.int .i64 (weighS v d).lo, .int .i64 (weighS v d).hi]) ∧ Below w.heap.size w w' := by
  obtain ⟨a1, a2, a3⟩ := hv
  obtain ⟨b1, b2, b3⟩ := hd
  have m1 := mul_bd 1000000000 2000 2000000000000 (by decide) (show -1000000000 ≤ v.lo by omega) (show v.lo ≤ 1000000000 by omega) (show 0 ≤ d.lo by omega) (show d.lo ≤ 2000 by omega)
  have m2 := mul_bd 1000000000 2000 2000000000000 (by decide) (show -1000000000 ≤ v.hi by omega) (show v.hi ≤ 1000000000 by omega) (show 0 ≤ d.hi by omega) (show d.hi ≤ 2000 by omega)
  have n1 := Int.mul_nonneg a1 b1
  have n2 := Int.mul_nonneg (show 0 ≤ v.hi by omega) (show 0 ≤ d.hi by omega)
  have HV := Lib.hid (show weighS v d = ⟨v.lo * d.lo / 1000, -(-(v.hi * d.hi) / 1000)⟩ from rfl)
  obtain ⟨m11, m12⟩ := m1
  obtain ⟨m21, m22⟩ := m2
  have q1 : (v.lo * d.lo).tdiv 1000 = v.lo * d.lo / 1000 := Int.tdiv_eq_ediv_of_nonneg n1
  have q2 : (v.hi * d.hi + 999).tdiv 1000 = -(-(v.hi * d.hi) / 1000) := by rw [Int.tdiv_eq_ediv_of_nonneg (by omega)]; omega
  go_enter Tryz.func47, Tryz.ntmps47
  go_wp2_with fail
  rw [HV.out]
  refine bodyPost_ret (v := .agg #[.int .i64 (v.lo * d.lo / 1000), .int .i64 (-(-(v.hi * d.hi) / 1000))]) (by simp [results, Tryz.results47, go_sem]) rfl ?_
  refine ⟨rfl, ?_⟩
  (repeat (first | with_reducible exact bel_refl _ | with_reducible refine bel_alloc ?_ _ | with_reducible refine bel_bw _ ?_ | with_reducible refine bel_drew ?_ | with_reducible refine bel_drewN _ ?_ | ((with_reducible refine bel_set ?_ ?_ _); rotate_left; focus (first | (simp; done) | omega | (simp; omega))) | refine bel_step ?_ (by with_reducible assumption)))

theorem R2_Volume (h : Ho) (f : Fi) (w : World) (hh : h.At w) :
    Calls Tryz.prog 8 #[.agg #[.int .i64 (h).id, .int .i64 ((h).along).lo, .int .i64 ((h).along).hi, .slice ((h).vol).p ((h).vol).n ((h).vol).c, .slice ((h).mom).p ((h).mom).n ((h).mom).c, .slice ((h).hei).p ((h).hei).n ((h).hei).c, .int .i64 ((h).tri).lo, .int .i64 ((h).tri).hi, .int .i64 ((h).unt).lo, .int .i64 ((h).unt).hi, .int .i64 ((h).v0).lo, .int .i64 ((h).v0).hi, .int .i64 ((h).h0).lo, .int .i64 ((h).h0).hi], .agg #[.int .i64 (f).hold, .int .i64 (f).state, .int .i64 ((f).ull).lo, .int .i64 ((f).ull).hi, .int .i64 ((f).den).lo, .int .i64 ((f).den).hi]] w fun e w' => e = .returned (.tuple #[.agg #[.int .i64 (volE h f).lo, .int .i64 (volE h f).hi], .int .i64 (fillErr h f)]) ∧ Below w.heap.size w w' := by
  have CCF := Lib.hid (fun W hW => R2_CheckFill h f W hW)
  by_cases hc : fillErr h f = 0
  · obtain ⟨h0, h1⟩ := fill_ok hc
    rw [hc] at CCF
    have HV := Lib.hid (show volE h f = volS h f from if_pos hc)
    have CV := Lib.hid (fun W hW => R2_volume h f W hW h0 h1)
    rw [HV.out, hc]
    clear hc h0 h1 HV
    generalize volS h f = rr at *
    go_enter Tryz.func8, Tryz.ntmps8
    go_wp2_with (first | (go_at_call 22; (with_reducible refine (CCF.out _ (by with_reducible repeat (first | exact hh | refine Ho.At.alloc ?_ _ | refine Ho.At.bw ?_ _ | refine Tk.At.alloc ?_ _ | refine Tk.At.bw ?_ _))).mono ?_); rintro e w_ ⟨rfl, hb_⟩; obtain ⟨y1, rfl⟩ := Soft.BW.mk hb_; clear hb_) | (go_at_call 45; (with_reducible refine (CV.out _ (by with_reducible repeat (first | exact hh | refine Ho.At.alloc ?_ _ | refine Ho.At.bw ?_ _ | refine Tk.At.alloc ?_ _ | refine Tk.At.bw ?_ _))).mono ?_); rintro e w_ ⟨rfl, hb_⟩; obtain ⟨y2, rfl⟩ := Soft.BW.mk hb_; clear hb_))
    refine bodyPost_ret (v := .tuple #[.agg #[.int .i64 rr.lo, .int .i64 rr.hi], .int .i64 0]) (by simp [results, Tryz.results8, go_sem]) rfl ?_
    refine ⟨rfl, ?_⟩
    (repeat (first | with_reducible exact bel_refl _ | with_reducible refine bel_alloc ?_ _ | with_reducible refine bel_bw _ ?_ | with_reducible refine bel_drew ?_ | with_reducible refine bel_drewN _ ?_ | ((with_reducible refine bel_set ?_ ?_ _); rotate_left; focus (first | (simp; done) | omega | (simp; omega))) | refine bel_step ?_ (by with_reducible assumption)))
  · have HV := Lib.hid (show volE h f = ⟨0, 0⟩ from if_neg hc)
    have d0 : (fillErr h f != 0) = true := bne_iff_ne.2 hc
    rw [HV.out]
    clear hc HV
    generalize fillErr h f = E at *
    go_enter Tryz.func8, Tryz.ntmps8
    go_wp2_with (first | (go_at_call 22; (with_reducible refine (CCF.out _ (by with_reducible repeat (first | exact hh | refine Ho.At.alloc ?_ _ | refine Ho.At.bw ?_ _ | refine Tk.At.alloc ?_ _ | refine Tk.At.bw ?_ _))).mono ?_); rintro e w_ ⟨rfl, hb_⟩; obtain ⟨y1, rfl⟩ := Soft.BW.mk hb_; clear hb_))
    refine bodyPost_ret (v := .tuple #[.agg #[.int .i64 0, .int .i64 0], .int .i64 E]) (by simp [results, Tryz.results8, go_sem]) rfl ?_
    refine ⟨rfl, ?_⟩
    (repeat (first | with_reducible exact bel_refl _ | with_reducible refine bel_alloc ?_ _ | with_reducible refine bel_bw _ ?_ | with_reducible refine bel_drew ?_ | with_reducible refine bel_drewN _ ?_ | ((with_reducible refine bel_set ?_ ?_ _); rotate_left; focus (first | (simp; done) | omega | (simp; omega))) | refine bel_step ?_ (by with_reducible assumption)))
theorem R2_Moment (h : Ho) (f : Fi) (w : World) (hh : h.At w) :
    Calls Tryz.prog 12 #[.agg #[.int .i64 (h).id, .int .i64 ((h).along).lo, .int .i64 ((h).along).hi, .slice ((h).vol).p ((h).vol).n ((h).vol).c, .slice ((h).mom).p ((h).mom).n ((h).mom).c, .slice ((h).hei).p ((h).hei).n ((h).hei).c, .int .i64 ((h).tri).lo, .int .i64 ((h).tri).hi, .int .i64 ((h).unt).lo, .int .i64 ((h).unt).hi, .int .i64 ((h).v0).lo, .int .i64 ((h).v0).hi, .int .i64 ((h).h0).lo, .int .i64 ((h).h0).hi], .agg #[.int .i64 (f).hold, .int .i64 (f).state, .int .i64 ((f).ull).lo, .int .i64 ((f).ull).hi, .int .i64 ((f).den).lo, .int .i64 ((f).den).hi]] w fun e w' => e = .returned (.tuple #[.agg #[.int .i64 (momE h f).lo, .int .i64 (momE h f).hi], .int .i64 (fillErr h f)]) ∧ Below w.heap.size w w' := by
  have CCF := Lib.hid (fun W hW => R2_CheckFill h f W hW)
  by_cases hc : fillErr h f = 0
  · obtain ⟨h0, h1⟩ := fill_ok hc
    rw [hc] at CCF
    have HV := Lib.hid (show momE h f = momS h f from if_pos hc)
    have CV := Lib.hid (fun W hW => R2_moment h f W hW h0 h1)
    rw [HV.out, hc]
    clear hc h0 h1 HV
    generalize momS h f = rr at *
    go_enter Tryz.func12, Tryz.ntmps12
    go_wp2_with (first | (go_at_call 22; (with_reducible refine (CCF.out _ (by with_reducible repeat (first | exact hh | refine Ho.At.alloc ?_ _ | refine Ho.At.bw ?_ _ | refine Tk.At.alloc ?_ _ | refine Tk.At.bw ?_ _))).mono ?_); rintro e w_ ⟨rfl, hb_⟩; obtain ⟨y1, rfl⟩ := Soft.BW.mk hb_; clear hb_) | (go_at_call 49; (with_reducible refine (CV.out _ (by with_reducible repeat (first | exact hh | refine Ho.At.alloc ?_ _ | refine Ho.At.bw ?_ _ | refine Tk.At.alloc ?_ _ | refine Tk.At.bw ?_ _))).mono ?_); rintro e w_ ⟨rfl, hb_⟩; obtain ⟨y2, rfl⟩ := Soft.BW.mk hb_; clear hb_))
    refine bodyPost_ret (v := .tuple #[.agg #[.int .i64 rr.lo, .int .i64 rr.hi], .int .i64 0]) (by simp [results, Tryz.results12, go_sem]) rfl ?_
    refine ⟨rfl, ?_⟩
    (repeat (first | with_reducible exact bel_refl _ | with_reducible refine bel_alloc ?_ _ | with_reducible refine bel_bw _ ?_ | with_reducible refine bel_drew ?_ | with_reducible refine bel_drewN _ ?_ | ((with_reducible refine bel_set ?_ ?_ _); rotate_left; focus (first | (simp; done) | omega | (simp; omega))) | refine bel_step ?_ (by with_reducible assumption)))
  · have HV := Lib.hid (show momE h f = ⟨0, 0⟩ from if_neg hc)
    have d0 : (fillErr h f != 0) = true := bne_iff_ne.2 hc
    rw [HV.out]
    clear hc HV
    generalize fillErr h f = E at *
    go_enter Tryz.func12, Tryz.ntmps12
    go_wp2_with (first | (go_at_call 22; (with_reducible refine (CCF.out _ (by with_reducible repeat (first | exact hh | refine Ho.At.alloc ?_ _ | refine Ho.At.bw ?_ _ | refine Tk.At.alloc ?_ _ | refine Tk.At.bw ?_ _))).mono ?_); rintro e w_ ⟨rfl, hb_⟩; obtain ⟨y1, rfl⟩ := Soft.BW.mk hb_; clear hb_))
    refine bodyPost_ret (v := .tuple #[.agg #[.int .i64 0, .int .i64 0], .int .i64 E]) (by simp [results, Tryz.results12, go_sem]) rfl ?_
    refine ⟨rfl, ?_⟩
    (repeat (first | with_reducible exact bel_refl _ | with_reducible refine bel_alloc ?_ _ | with_reducible refine bel_bw _ ?_ | with_reducible refine bel_drew ?_ | with_reducible refine bel_drewN _ ?_ | ((with_reducible refine bel_set ?_ ?_ _); rotate_left; focus (first | (simp; done) | omega | (simp; omega))) | refine bel_step ?_ (by with_reducible assumption)))
theorem R2_Height (h : Ho) (f : Fi) (w : World) (hh : h.At w) :
    Calls Tryz.prog 16 #[.agg #[.int .i64 (h).id, .int .i64 ((h).along).lo, .int .i64 ((h).along).hi, .slice ((h).vol).p ((h).vol).n ((h).vol).c, .slice ((h).mom).p ((h).mom).n ((h).mom).c, .slice ((h).hei).p ((h).hei).n ((h).hei).c, .int .i64 ((h).tri).lo, .int .i64 ((h).tri).hi, .int .i64 ((h).unt).lo, .int .i64 ((h).unt).hi, .int .i64 ((h).v0).lo, .int .i64 ((h).v0).hi, .int .i64 ((h).h0).lo, .int .i64 ((h).h0).hi], .agg #[.int .i64 (f).hold, .int .i64 (f).state, .int .i64 ((f).ull).lo, .int .i64 ((f).ull).hi, .int .i64 ((f).den).lo, .int .i64 ((f).den).hi]] w fun e w' => e = .returned (.tuple #[.agg #[.int .i64 (heightE h f).lo, .int .i64 (heightE h f).hi], .int .i64 (fillErr h f)]) ∧ Below w.heap.size w w' := by
  have CCF := Lib.hid (fun W hW => R2_CheckFill h f W hW)
  by_cases hc : fillErr h f = 0
  · obtain ⟨h0, h1⟩ := fill_ok hc
    rw [hc] at CCF
    have HV := Lib.hid (show heightE h f = heightS h f from if_pos hc)
    have CV := Lib.hid (fun W hW => R2_height h f W hW h0 h1)
    rw [HV.out, hc]
    clear hc h0 h1 HV
    generalize heightS h f = rr at *
    go_enter Tryz.func16, Tryz.ntmps16
    go_wp2_with (first | (go_at_call 22; (with_reducible refine (CCF.out _ (by with_reducible repeat (first | exact hh | refine Ho.At.alloc ?_ _ | refine Ho.At.bw ?_ _ | refine Tk.At.alloc ?_ _ | refine Tk.At.bw ?_ _))).mono ?_); rintro e w_ ⟨rfl, hb_⟩; obtain ⟨y1, rfl⟩ := Soft.BW.mk hb_; clear hb_) | (go_at_call 52; (with_reducible refine (CV.out _ (by with_reducible repeat (first | exact hh | refine Ho.At.alloc ?_ _ | refine Ho.At.bw ?_ _ | refine Tk.At.alloc ?_ _ | refine Tk.At.bw ?_ _))).mono ?_); rintro e w_ ⟨rfl, hb_⟩; obtain ⟨y2, rfl⟩ := Soft.BW.mk hb_; clear hb_))
    refine bodyPost_ret (v := .tuple #[.agg #[.int .i64 rr.lo, .int .i64 rr.hi], .int .i64 0]) (by simp [results, Tryz.results16, go_sem]) rfl ?_
    refine ⟨rfl, ?_⟩
    (repeat (first | with_reducible exact bel_refl _ | with_reducible refine bel_alloc ?_ _ | with_reducible refine bel_bw _ ?_ | with_reducible refine bel_drew ?_ | with_reducible refine bel_drewN _ ?_ | ((with_reducible refine bel_set ?_ ?_ _); rotate_left; focus (first | (simp; done) | omega | (simp; omega))) | refine bel_step ?_ (by with_reducible assumption)))
  · have HV := Lib.hid (show heightE h f = ⟨0, 0⟩ from if_neg hc)
    have d0 : (fillErr h f != 0) = true := bne_iff_ne.2 hc
    rw [HV.out]
    clear hc HV
    generalize fillErr h f = E at *
    go_enter Tryz.func16, Tryz.ntmps16
    go_wp2_with (first | (go_at_call 22; (with_reducible refine (CCF.out _ (by with_reducible repeat (first | exact hh | refine Ho.At.alloc ?_ _ | refine Ho.At.bw ?_ _ | refine Tk.At.alloc ?_ _ | refine Tk.At.bw ?_ _))).mono ?_); rintro e w_ ⟨rfl, hb_⟩; obtain ⟨y1, rfl⟩ := Soft.BW.mk hb_; clear hb_))
    refine bodyPost_ret (v := .tuple #[.agg #[.int .i64 0, .int .i64 0], .int .i64 E]) (by simp [results, Tryz.results16, go_sem]) rfl ?_
    refine ⟨rfl, ?_⟩
    (repeat (first | with_reducible exact bel_refl _ | with_reducible refine bel_alloc ?_ _ | with_reducible refine bel_bw _ ?_ | with_reducible refine bel_drew ?_ | with_reducible refine bel_drewN _ ?_ | ((with_reducible refine bel_set ?_ ?_ _); rotate_left; focus (first | (simp; done) | omega | (simp; omega))) | refine bel_step ?_ (by with_reducible assumption)))

theorem R2_Mass (h : Ho) (f : Fi) (w : World) (hh : h.At w) :
    Calls Tryz.prog 10 #[.agg #[.int .i64 (h).id, .int .i64 ((h).along).lo, .int .i64 ((h).along).hi, .slice ((h).vol).p ((h).vol).n ((h).vol).c, .slice ((h).mom).p ((h).mom).n ((h).mom).c, .slice ((h).hei).p ((h).hei).n ((h).hei).c, .int .i64 ((h).tri).lo, .int .i64 ((h).tri).hi, .int .i64 ((h).unt).lo, .int .i64 ((h).unt).hi, .int .i64 ((h).v0).lo, .int .i64 ((h).v0).hi, .int .i64 ((h).h0).lo, .int .i64 ((h).h0).hi], .agg #[.int .i64 (f).hold, .int .i64 (f).state, .int .i64 ((f).ull).lo, .int .i64 ((f).ull).hi, .int .i64 ((f).den).lo, .int .i64 ((f).den).hi]] w fun e w' => e = .returned (.tuple #[.agg #[.int .i64 (massE h f).lo, .int .i64 (massE h f).hi], .int .i64 (fillErr h f)]) ∧ Below w.heap.size w w' := by
  have CCF := Lib.hid (fun W hW => R2_CheckFill h f W hW)
  by_cases hc : fillErr h f = 0
  · obtain ⟨h0, h1⟩ := fill_ok hc
    rw [hc] at CCF
    have HV := Lib.hid (show massE h f = weighS (volS h f) f.den from if_pos hc)
    have CV := Lib.hid (fun W hW => R2_volume h f W hW h0 h1)
    have CW := Lib.hid (fun W => R2_heavy (volS h f) f.den W (volS_in h0 f) (den_in h1))
    rw [HV.out, hc]
    clear hc h0 h1 HV
    generalize volS h f = vv at *
    generalize weighS vv f.den = rr at *
    go_enter Tryz.func10, Tryz.ntmps10
    go_wp2_with (first | (go_at_call 22; (with_reducible refine (CCF.out _ (by with_reducible repeat (first | exact hh | refine Ho.At.alloc ?_ _ | refine Ho.At.bw ?_ _ | refine Tk.At.alloc ?_ _ | refine Tk.At.bw ?_ _))).mono ?_); rintro e w_ ⟨rfl, hb_⟩; obtain ⟨y1, rfl⟩ := Soft.BW.mk hb_; clear hb_) | (go_at_call 45; (with_reducible refine (CV.out _ (by with_reducible repeat (first | exact hh | refine Ho.At.alloc ?_ _ | refine Ho.At.bw ?_ _ | refine Tk.At.alloc ?_ _ | refine Tk.At.bw ?_ _))).mono ?_); rintro e w_ ⟨rfl, hb_⟩; obtain ⟨y2, rfl⟩ := Soft.BW.mk hb_; clear hb_) | (go_at_call 47; (with_reducible refine (CW.out _).mono ?_); rintro e w_ ⟨rfl, hb_⟩; obtain ⟨y3, rfl⟩ := Soft.BW.mk hb_; clear hb_))
    refine bodyPost_ret (v := .tuple #[.agg #[.int .i64 rr.lo, .int .i64 rr.hi], .int .i64 0]) (by simp [results, Tryz.results10, go_sem]) rfl ?_
    refine ⟨rfl, ?_⟩
    (repeat (first | with_reducible exact bel_refl _ | with_reducible refine bel_alloc ?_ _ | with_reducible refine bel_bw _ ?_ | with_reducible refine bel_drew ?_ | with_reducible refine bel_drewN _ ?_ | ((with_reducible refine bel_set ?_ ?_ _); rotate_left; focus (first | (simp; done) | omega | (simp; omega))) | refine bel_step ?_ (by with_reducible assumption)))
  · have HV := Lib.hid (show massE h f = ⟨0, 0⟩ from if_neg hc)
    have d0 : (fillErr h f != 0) = true := bne_iff_ne.2 hc
    rw [HV.out]
    clear hc HV
    generalize fillErr h f = E at *
    go_enter Tryz.func10, Tryz.ntmps10
    go_wp2_with (first | (go_at_call 22; (with_reducible refine (CCF.out _ (by with_reducible repeat (first | exact hh | refine Ho.At.alloc ?_ _ | refine Ho.At.bw ?_ _ | refine Tk.At.alloc ?_ _ | refine Tk.At.bw ?_ _))).mono ?_); rintro e w_ ⟨rfl, hb_⟩; obtain ⟨y1, rfl⟩ := Soft.BW.mk hb_; clear hb_))
    refine bodyPost_ret (v := .tuple #[.agg #[.int .i64 0, .int .i64 0], .int .i64 E]) (by simp [results, Tryz.results10, go_sem]) rfl ?_
    refine ⟨rfl, ?_⟩
    (repeat (first | with_reducible exact bel_refl _ | with_reducible refine bel_alloc ?_ _ | with_reducible refine bel_bw _ ?_ | with_reducible refine bel_drew ?_ | with_reducible refine bel_drewN _ ?_ | ((with_reducible refine bel_set ?_ ?_ _); rotate_left; focus (first | (simp; done) | omega | (simp; omega))) | refine bel_step ?_ (by with_reducible assumption)))
theorem R2_Heel (h : Ho) (f : Fi) (w : World) (hh : h.At w) :
    Calls Tryz.prog 14 #[.agg #[.int .i64 (h).id, .int .i64 ((h).along).lo, .int .i64 ((h).along).hi, .slice ((h).vol).p ((h).vol).n ((h).vol).c, .slice ((h).mom).p ((h).mom).n ((h).mom).c, .slice ((h).hei).p ((h).hei).n ((h).hei).c, .int .i64 ((h).tri).lo, .int .i64 ((h).tri).hi, .int .i64 ((h).unt).lo, .int .i64 ((h).unt).hi, .int .i64 ((h).v0).lo, .int .i64 ((h).v0).hi, .int .i64 ((h).h0).lo, .int .i64 ((h).h0).hi], .agg #[.int .i64 (f).hold, .int .i64 (f).state, .int .i64 ((f).ull).lo, .int .i64 ((f).ull).hi, .int .i64 ((f).den).lo, .int .i64 ((f).den).hi]] w fun e w' => e = .returned (.tuple #[.agg #[.int .i64 (heelE h f).lo, .int .i64 (heelE h f).hi], .int .i64 (fillErr h f)]) ∧ Below w.heap.size w w' := by
  have CCF := Lib.hid (fun W hW => R2_CheckFill h f W hW)
  by_cases hc : fillErr h f = 0
  · obtain ⟨h0, h1⟩ := fill_ok hc
    rw [hc] at CCF
    have HV := Lib.hid (show heelE h f = weighS (momS h f) f.den from if_pos hc)
    have CV := Lib.hid (fun W hW => R2_moment h f W hW h0 h1)
    have CW := Lib.hid (fun W => R2_heavy (momS h f) f.den W (momS_in h0 f) (den_in h1))
    rw [HV.out, hc]
    clear hc h0 h1 HV
    generalize momS h f = vv at *
    generalize weighS vv f.den = rr at *
    go_enter Tryz.func14, Tryz.ntmps14
    go_wp2_with (first | (go_at_call 22; (with_reducible refine (CCF.out _ (by with_reducible repeat (first | exact hh | refine Ho.At.alloc ?_ _ | refine Ho.At.bw ?_ _ | refine Tk.At.alloc ?_ _ | refine Tk.At.bw ?_ _))).mono ?_); rintro e w_ ⟨rfl, hb_⟩; obtain ⟨y1, rfl⟩ := Soft.BW.mk hb_; clear hb_) | (go_at_call 49; (with_reducible refine (CV.out _ (by with_reducible repeat (first | exact hh | refine Ho.At.alloc ?_ _ | refine Ho.At.bw ?_ _ | refine Tk.At.alloc ?_ _ | refine Tk.At.bw ?_ _))).mono ?_); rintro e w_ ⟨rfl, hb_⟩; obtain ⟨y2, rfl⟩ := Soft.BW.mk hb_; clear hb_) | (go_at_call 47; (with_reducible refine (CW.out _).mono ?_); rintro e w_ ⟨rfl, hb_⟩; obtain ⟨y3, rfl⟩ := Soft.BW.mk hb_; clear hb_))
    refine bodyPost_ret (v := .tuple #[.agg #[.int .i64 rr.lo, .int .i64 rr.hi], .int .i64 0]) (by simp [results, Tryz.results14, go_sem]) rfl ?_
    refine ⟨rfl, ?_⟩
    (repeat (first | with_reducible exact bel_refl _ | with_reducible refine bel_alloc ?_ _ | with_reducible refine bel_bw _ ?_ | with_reducible refine bel_drew ?_ | with_reducible refine bel_drewN _ ?_ | ((with_reducible refine bel_set ?_ ?_ _); rotate_left; focus (first | (simp; done) | omega | (simp; omega))) | refine bel_step ?_ (by with_reducible assumption)))
  · have HV := Lib.hid (show heelE h f = ⟨0, 0⟩ from if_neg hc)
    have d0 : (fillErr h f != 0) = true := bne_iff_ne.2 hc
    rw [HV.out]
    clear hc HV
    generalize fillErr h f = E at *
    go_enter Tryz.func14, Tryz.ntmps14
    go_wp2_with (first | (go_at_call 22; (with_reducible refine (CCF.out _ (by with_reducible repeat (first | exact hh | refine Ho.At.alloc ?_ _ | refine Ho.At.bw ?_ _ | refine Tk.At.alloc ?_ _ | refine Tk.At.bw ?_ _))).mono ?_); rintro e w_ ⟨rfl, hb_⟩; obtain ⟨y1, rfl⟩ := Soft.BW.mk hb_; clear hb_))
    refine bodyPost_ret (v := .tuple #[.agg #[.int .i64 0, .int .i64 0], .int .i64 E]) (by simp [results, Tryz.results14, go_sem]) rfl ?_
    refine ⟨rfl, ?_⟩
    (repeat (first | with_reducible exact bel_refl _ | with_reducible refine bel_alloc ?_ _ | with_reducible refine bel_bw _ ?_ | with_reducible refine bel_drew ?_ | with_reducible refine bel_drewN _ ?_ | ((with_reducible refine bel_set ?_ ?_ _); rotate_left; focus (first | (simp; done) | omega | (simp; omega))) | refine bel_step ?_ (by with_reducible assumption)))

theorem R2_Weight (h : Ho) (f : Fi) (w : World) (hh : h.At w) :
    Calls Tryz.prog 18 #[.agg #[.int .i64 (h).id, .int .i64 ((h).along).lo, .int .i64 ((h).along).hi, .slice ((h).vol).p ((h).vol).n ((h).vol).c, .slice ((h).mom).p ((h).mom).n ((h).mom).c, .slice ((h).hei).p ((h).hei).n ((h).hei).c, .int .i64 ((h).tri).lo, .int .i64 ((h).tri).hi, .int .i64 ((h).unt).lo, .int .i64 ((h).unt).hi, .int .i64 ((h).v0).lo, .int .i64 ((h).v0).hi, .int .i64 ((h).h0).lo, .int .i64 ((h).h0).hi], .agg #[.int .i64 (f).hold, .int .i64 (f).state, .int .i64 ((f).ull).lo, .int .i64 ((f).ull).hi, .int .i64 ((f).den).lo, .int .i64 ((f).den).hi]] w fun e w' => e = .returned (.tuple #[.agg #[.int .i64 ((wtE h f).mass).lo, .int .i64 ((wtE h f).mass).hi, .int .i64 ((wtE h f).along).lo, .int .i64 ((wtE h f).along).hi, .int .i64 ((wtE h f).high).lo, .int .i64 ((wtE h f).high).hi], .int .i64 (fillErr h f)]) ∧ Below w.heap.size w w' := by
  have CCF := Lib.hid (fun W hW => R2_CheckFill h f W hW)
  by_cases hc : fillErr h f = 0
  · obtain ⟨h0, h1⟩ := fill_ok hc
    rw [hc] at CCF
    have HV := Lib.hid (show wtE h f = ⟨weighS (volS h f) f.den, h.along, heightS h f⟩ from if_pos hc)
    have CV := Lib.hid (fun W hW => R2_volume h f W hW h0 h1)
    have CH := Lib.hid (fun W hW => R2_height h f W hW h0 h1)
    have CW := Lib.hid (fun W => R2_heavy (volS h f) f.den W (volS_in h0 f) (den_in h1))
    rw [HV.out, hc]
    clear hc h0 h1 HV
    generalize volS h f = vv at *
    generalize heightS h f = hv at *
    generalize weighS vv f.den = rr at *
    dsimp only
    go_enter Tryz.func18, Tryz.ntmps18
    go_wp2_with (first | (go_at_call 22; (with_reducible refine (CCF.out _ (by with_reducible repeat (first | exact hh | refine Ho.At.alloc ?_ _ | refine Ho.At.bw ?_ _ | refine Tk.At.alloc ?_ _ | refine Tk.At.bw ?_ _))).mono ?_); rintro e w_ ⟨rfl, hb_⟩; obtain ⟨y1, rfl⟩ := Soft.BW.mk hb_; clear hb_) | (go_at_call 45; (with_reducible refine (CV.out _ (by with_reducible repeat (first | exact hh | refine Ho.At.alloc ?_ _ | refine Ho.At.bw ?_ _ | refine Tk.At.alloc ?_ _ | refine Tk.At.bw ?_ _))).mono ?_); rintro e w_ ⟨rfl, hb_⟩; obtain ⟨y2, rfl⟩ := Soft.BW.mk hb_; clear hb_))
    (refine Soft.region0 [0, 1, 2, 3, 4, 5, 6, 7, 8, 9] [10, 11] (by kernel_rfl) (by kernel_rfl) (by kernel_rfl) (by kernel_rfl) ?_; change Soft.wpSoft _ _ _ _ _ [_, _, _, _, _, _, _, _, _, _] _; (repeat (refine Soft.soft_step (fun K hK => ?_); go_simp; (try go_bits); first | (refine hK _ ?_; clear hK K) | (apply Exists.intro; refine ⟨fun x => ?_, hK _ ?_⟩; (first | (go_at_call 47; with_reducible exact (CW.out _)) | (go_at_call 52; with_reducible exact (CH.out _ (by with_reducible repeat (first | exact hh | refine Ho.At.alloc ?_ _ | refine Ho.At.bw ?_ _ | refine Tk.At.alloc ?_ _ | refine Tk.At.bw ?_ _))))); clear hK K))); refine Soft.soft_nil ?_; intro xw; change wpList _ _ _ [_, _] _ _)
    change wpList _ _ _ [_, _] _ _
    go_wp2_with fail
    refine bodyPost_ret (v := .tuple #[.agg #[.int .i64 rr.lo, .int .i64 rr.hi, .int .i64 h.along.lo, .int .i64 h.along.hi, .int .i64 hv.lo, .int .i64 hv.hi], .int .i64 0]) (by simp [results, Tryz.results18, go_sem]) rfl ?_
    refine ⟨rfl, ?_⟩
    (repeat (first | with_reducible exact bel_refl _ | with_reducible refine bel_alloc ?_ _ | with_reducible refine bel_bw _ ?_ | with_reducible refine bel_drew ?_ | with_reducible refine bel_drewN _ ?_ | ((with_reducible refine bel_set ?_ ?_ _); rotate_left; focus (first | (simp; done) | omega | (simp; omega))) | refine bel_step ?_ (by with_reducible assumption)))
  · have HV := Lib.hid (show wtE h f = ⟨⟨0, 0⟩, ⟨0, 0⟩, ⟨0, 0⟩⟩ from if_neg hc)
    have d0 : (fillErr h f != 0) = true := bne_iff_ne.2 hc
    rw [HV.out]
    clear hc HV
    generalize fillErr h f = E at *
    go_enter Tryz.func18, Tryz.ntmps18
    go_wp2_with (first | (go_at_call 22; (with_reducible refine (CCF.out _ (by with_reducible repeat (first | exact hh | refine Ho.At.alloc ?_ _ | refine Ho.At.bw ?_ _ | refine Tk.At.alloc ?_ _ | refine Tk.At.bw ?_ _))).mono ?_); rintro e w_ ⟨rfl, hb_⟩; obtain ⟨y1, rfl⟩ := Soft.BW.mk hb_; clear hb_))
    refine bodyPost_ret (v := .tuple #[.agg #[.int .i64 (((⟨⟨0, 0⟩, ⟨0, 0⟩, ⟨0, 0⟩⟩ : Wt)).mass).lo, .int .i64 (((⟨⟨0, 0⟩, ⟨0, 0⟩, ⟨0, 0⟩⟩ : Wt)).mass).hi, .int .i64 (((⟨⟨0, 0⟩, ⟨0, 0⟩, ⟨0, 0⟩⟩ : Wt)).along).lo, .int .i64 (((⟨⟨0, 0⟩, ⟨0, 0⟩, ⟨0, 0⟩⟩ : Wt)).along).hi, .int .i64 (((⟨⟨0, 0⟩, ⟨0, 0⟩, ⟨0, 0⟩⟩ : Wt)).high).lo, .int .i64 (((⟨⟨0, 0⟩, ⟨0, 0⟩, ⟨0, 0⟩⟩ : Wt)).high).hi], .int .i64 E]) (by simp [results, Tryz.results18, go_sem]) rfl ?_
    refine ⟨rfl, ?_⟩
    (repeat (first | with_reducible exact bel_refl _ | with_reducible refine bel_alloc ?_ _ | with_reducible refine bel_bw _ ?_ | with_reducible refine bel_drew ?_ | with_reducible refine bel_drewN _ ?_ | ((with_reducible refine bel_set ?_ ?_ _); rotate_left; focus (first | (simp; done) | omega | (simp; omega))) | refine bel_step ?_ (by with_reducible assumption)))

end Go.Proofs.YtbjdgaeikihjbaaGreat
