/-
  The reference's Ullage and Sounding.
  Conditions: each theorem's own premises.
-/
import Derived.Test.YtbjdgaeikihjbaaRfj
import Derived.Test.YtbjdgaeikihjbaaRfd
namespace Go.Proofs.Ytbjdgaeikihjbaa
set_option linter.unusedSimpArgs false
set_option linter.unusedVariables false
open Go.RowKit
set_option maxRecDepth 100000
set_option maxHeartbeats 4000000
attribute [local go_sem] Instr.field asAgg Soft.upon Soft.BW.cell_if Soft.BW.frozen_if Soft.cell_alloc_if Soft.frozen_alloc_if

theorem R2_Ullage (h : Ho) (m d : Rg) (w : World) (hh : h.At w) :
    Calls Try.prog 44 #[.agg #[.int .i64 (h).id, .int .i64 ((h).along).lo, .int .i64 ((h).along).hi, .slice ((h).vol).p ((h).vol).n ((h).vol).c, .slice ((h).mom).p ((h).mom).n ((h).mom).c, .slice ((h).hei).p ((h).hei).n ((h).hei).c, .int .i64 ((h).tri).lo, .int .i64 ((h).tri).hi, .int .i64 ((h).unt).lo, .int .i64 ((h).unt).hi, .int .i64 ((h).v0).lo, .int .i64 ((h).v0).hi, .int .i64 ((h).h0).lo, .int .i64 ((h).h0).hi], .agg #[.int .i64 (m).lo, .int .i64 (m).hi], .agg #[.int .i64 (d).lo, .int .i64 (d).hi]] w fun e w' => e = .returned (.tuple #[.agg #[.int .i64 ((ullE h m d).1).lo, .int .i64 ((ullE h m d).1).hi], .int .i64 (ullE h m d).2]) ∧ Below w.heap.size w w' := by
  have hv := hh.1
  by_cases h0 : holdErr h = 0
  · have hok := holdErr_ok h0
    have CI := Lib.hid (fun r W hW => R2_Inverse_down h.vol r W hW hok.tabs.1 (ways_down hok.tabs.1 hok.mv r))
    clear hok
    have H0 := Lib.hid h0
    by_cases h1 : massErr m d = 0
    · have hme := Lib.hid (massErr_ok h1)
      have HL := Lib.hid (show litE m d = litS m d from if_pos h1)
      have H1 := Lib.hid h1
      by_cases h2 : (invDown h.vol.ps (litS m d)).2 = true
      · have HV := Lib.hid (show ullE h m d = ((invDown h.vol.ps (litS m d)).1, 0) by unfold ullE; rw [if_pos h0, if_pos h1, if_pos h2])
        rw [HV.out]
        have HI := Lib.hid (fun W hW => CI.out (litE m d) W hW)
        rw [HL.out, h2] at HI
        clear h0 h1 h2 CI HV
        generalize (invDown h.vol.ps (litS m d)).1 = R at *
        have CC := Lib.hid (fun W hW => R2_CheckHold h W hW)
        have CM := Lib.hid (fun W => R2_Litres m d W)
        rw [H0.out] at CC
        rw [H1.out, HL.out] at CM
        clear H0 H1 HL hme
        generalize litS m d = V at *
        go_enter Try.func44, Try.ntmps44
        go_wp2_with (first | (go_at_call 92; (with_reducible refine (CC.out _ (by with_reducible repeat (first | exact hh | refine Ho.At.alloc ?_ _ | refine Ho.At.bw ?_ _ | refine Tk.At.alloc ?_ _ | refine Tk.At.bw ?_ _))).mono ?_); rintro e w_ ⟨rfl, hb_⟩; obtain ⟨y1, rfl⟩ := Soft.BW.mk hb_; clear hb_) | (go_at_call 43; (with_reducible refine (CM.out _).mono ?_); rintro e w_ ⟨rfl, hb_⟩; obtain ⟨y2, rfl⟩ := Soft.BW.mk hb_; clear hb_) | (go_at_call 93; (with_reducible refine (HI.out _ (by repeat (first | exact hv | refine Tb.At.alloc ?_ _ | refine Tb.At.bw ?_ _))).mono ?_); rintro e w_ ⟨rfl, hb_⟩; obtain ⟨y3, rfl⟩ := Soft.BW.mk hb_; clear hb_))
        refine bodyPost_ret (v := .tuple #[.agg #[.int .i64 (R).lo, .int .i64 (R).hi], .int .i64 0]) (by simp [results, Try.results44, go_sem]) rfl ?_
        refine ⟨rfl, ?_⟩
        (repeat (first | with_reducible exact bel_refl _ | with_reducible refine bel_alloc ?_ _ | with_reducible refine bel_bw _ ?_ | with_reducible refine bel_drew ?_ | with_reducible refine bel_drewN _ ?_ | ((with_reducible refine bel_set ?_ ?_ _); rotate_left; focus (first | (simp; done) | omega | (simp; omega))) | refine bel_step ?_ (by with_reducible assumption)))
      · have h2' : (invDown h.vol.ps (litS m d)).2 = false := by simpa using h2
        have HV := Lib.hid (show ullE h m d = (⟨0, 0⟩, 24) by unfold ullE; rw [if_pos h0, if_pos h1, if_neg h2])
        rw [HV.out]
        have HI := Lib.hid (fun W hW => CI.out (litE m d) W hW)
        rw [HL.out, h2'] at HI
        clear h0 h1 h2 h2' CI HV
        generalize (invDown h.vol.ps (litS m d)).1 = R at *
        have CC := Lib.hid (fun W hW => R2_CheckHold h W hW)
        have CM := Lib.hid (fun W => R2_Litres m d W)
        rw [H0.out] at CC
        rw [H1.out, HL.out] at CM
        clear H0 H1 HL hme
        generalize litS m d = V at *
        go_enter Try.func44, Try.ntmps44
        go_wp2_with (first | (go_at_call 92; (with_reducible refine (CC.out _ (by with_reducible repeat (first | exact hh | refine Ho.At.alloc ?_ _ | refine Ho.At.bw ?_ _ | refine Tk.At.alloc ?_ _ | refine Tk.At.bw ?_ _))).mono ?_); rintro e w_ ⟨rfl, hb_⟩; obtain ⟨y1, rfl⟩ := Soft.BW.mk hb_; clear hb_) | (go_at_call 43; (with_reducible refine (CM.out _).mono ?_); rintro e w_ ⟨rfl, hb_⟩; obtain ⟨y2, rfl⟩ := Soft.BW.mk hb_; clear hb_) | (go_at_call 93; (with_reducible refine (HI.out _ (by repeat (first | exact hv | refine Tb.At.alloc ?_ _ | refine Tb.At.bw ?_ _))).mono ?_); rintro e w_ ⟨rfl, hb_⟩; obtain ⟨y3, rfl⟩ := Soft.BW.mk hb_; clear hb_))
        refine bodyPost_ret (v := .tuple #[.agg #[.int .i64 ((⟨0, 0⟩ : Rg)).lo, .int .i64 ((⟨0, 0⟩ : Rg)).hi], .int .i64 24]) (by simp [results, Try.results44, go_sem]) rfl ?_
        refine ⟨rfl, ?_⟩
        (repeat (first | with_reducible exact bel_refl _ | with_reducible refine bel_alloc ?_ _ | with_reducible refine bel_bw _ ?_ | with_reducible refine bel_drew ?_ | with_reducible refine bel_drewN _ ?_ | ((with_reducible refine bel_set ?_ ?_ _); rotate_left; focus (first | (simp; done) | omega | (simp; omega))) | refine bel_step ?_ (by with_reducible assumption)))
    · rw [show ullE h m d = (⟨0, 0⟩, massErr m d) by unfold ullE; rw [if_pos h0, if_neg h1]]
      have d1 : (massErr m d == 0) = false := beq_eq_false_iff_ne.2 h1
      have d2 : (massErr m d != 0) = true := bne_iff_ne.2 h1
      have CC := Lib.hid (fun W hW => R2_CheckHold h W hW)
      have CM := Lib.hid (fun W => R2_Litres m d W)
      rw [H0.out] at CC
      clear h0 h1 H0 CI
      generalize massErr m d = E at *
      generalize litE m d = V at *
      go_enter Try.func44, Try.ntmps44
      go_wp2_with (first | (go_at_call 92; (with_reducible refine (CC.out _ (by with_reducible repeat (first | exact hh | refine Ho.At.alloc ?_ _ | refine Ho.At.bw ?_ _ | refine Tk.At.alloc ?_ _ | refine Tk.At.bw ?_ _))).mono ?_); rintro e w_ ⟨rfl, hb_⟩; obtain ⟨y1, rfl⟩ := Soft.BW.mk hb_; clear hb_) | (go_at_call 43; (with_reducible refine (CM.out _).mono ?_); rintro e w_ ⟨rfl, hb_⟩; obtain ⟨y2, rfl⟩ := Soft.BW.mk hb_; clear hb_))
      refine bodyPost_ret (v := .tuple #[.agg #[.int .i64 ((⟨0, 0⟩ : Rg)).lo, .int .i64 ((⟨0, 0⟩ : Rg)).hi], .int .i64 E]) (by simp [results, Try.results44, go_sem]) rfl ?_
      refine ⟨rfl, ?_⟩
      (repeat (first | with_reducible exact bel_refl _ | with_reducible refine bel_alloc ?_ _ | with_reducible refine bel_bw _ ?_ | with_reducible refine bel_drew ?_ | with_reducible refine bel_drewN _ ?_ | ((with_reducible refine bel_set ?_ ?_ _); rotate_left; focus (first | (simp; done) | omega | (simp; omega))) | refine bel_step ?_ (by with_reducible assumption)))
  · have e0 : holdErr h = 20 := by
      unfold holdErr at h0 ⊢
      split at h0 <;> simp_all
    rw [show ullE h m d = (⟨0, 0⟩, 20) by unfold ullE; rw [if_neg h0, e0]]
    have CC := Lib.hid (fun W hW => R2_CheckHold h W hW)
    rw [e0] at CC
    clear h0 e0
    go_enter Try.func44, Try.ntmps44
    go_wp2_with (first | (go_at_call 92; (with_reducible refine (CC.out _ (by with_reducible repeat (first | exact hh | refine Ho.At.alloc ?_ _ | refine Ho.At.bw ?_ _ | refine Tk.At.alloc ?_ _ | refine Tk.At.bw ?_ _))).mono ?_); rintro e w_ ⟨rfl, hb_⟩; obtain ⟨y1, rfl⟩ := Soft.BW.mk hb_; clear hb_))
    refine bodyPost_ret (v := .tuple #[.agg #[.int .i64 ((⟨0, 0⟩ : Rg)).lo, .int .i64 ((⟨0, 0⟩ : Rg)).hi], .int .i64 20]) (by simp [results, Try.results44, go_sem]) rfl ?_
    refine ⟨rfl, ?_⟩
    (repeat (first | with_reducible exact bel_refl _ | with_reducible refine bel_alloc ?_ _ | with_reducible refine bel_bw _ ?_ | with_reducible refine bel_drew ?_ | with_reducible refine bel_drewN _ ?_ | ((with_reducible refine bel_set ?_ ?_ _); rotate_left; focus (first | (simp; done) | omega | (simp; omega))) | refine bel_step ?_ (by with_reducible assumption)))
theorem R2_Sounding (h : Tk) (m d : Rg) (w : World) (hh : h.At w) :
    Calls Try.prog 45 #[.agg #[.int .i64 (h).id, .int .i64 ((h).along).lo, .int .i64 ((h).along).hi, .slice ((h).vol).p ((h).vol).n ((h).vol).c, .slice ((h).sur).p ((h).sur).n ((h).sur).c, .slice ((h).hei).p ((h).hei).n ((h).hei).c], .agg #[.int .i64 (m).lo, .int .i64 (m).hi], .agg #[.int .i64 (d).lo, .int .i64 (d).hi]] w fun e w' => e = .returned (.tuple #[.agg #[.int .i64 ((sndE h m d).1).lo, .int .i64 ((sndE h m d).1).hi], .int .i64 (sndE h m d).2]) ∧ Below w.heap.size w w' := by
  have hv := hh.1
  by_cases h0 : tankErr h = 0
  · have hok := tankErr_ok h0
    have CI := Lib.hid (fun r W hW => R2_Inverse_up h.vol r W hW hok.tabs.1 (ways_up hok.tabs.1 hok.mv r))
    clear hok
    have H0 := Lib.hid h0
    by_cases h1 : massErr m d = 0
    · have hme := Lib.hid (massErr_ok h1)
      have HL := Lib.hid (show litE m d = litS m d from if_pos h1)
      have H1 := Lib.hid h1
      by_cases h2 : (invUp h.vol.ps (litS m d)).2 = true
      · have HV := Lib.hid (show sndE h m d = ((invUp h.vol.ps (litS m d)).1, 0) by unfold sndE; rw [if_pos h0, if_pos h1, if_pos h2])
        rw [HV.out]
        have HI := Lib.hid (fun W hW => CI.out (litE m d) W hW)
        rw [HL.out, h2] at HI
        clear h0 h1 h2 CI HV
        generalize (invUp h.vol.ps (litS m d)).1 = R at *
        have CC := Lib.hid (fun W hW => R2_CheckTank h W hW)
        have CM := Lib.hid (fun W => R2_Litres m d W)
        rw [H0.out] at CC
        rw [H1.out, HL.out] at CM
        clear H0 H1 HL hme
        generalize litS m d = V at *
        go_enter Try.func45, Try.ntmps45
        go_wp2_with (first | (go_at_call 94; (with_reducible refine (CC.out _ (by with_reducible repeat (first | exact hh | refine Ho.At.alloc ?_ _ | refine Ho.At.bw ?_ _ | refine Tk.At.alloc ?_ _ | refine Tk.At.bw ?_ _))).mono ?_); rintro e w_ ⟨rfl, hb_⟩; obtain ⟨y1, rfl⟩ := Soft.BW.mk hb_; clear hb_) | (go_at_call 43; (with_reducible refine (CM.out _).mono ?_); rintro e w_ ⟨rfl, hb_⟩; obtain ⟨y2, rfl⟩ := Soft.BW.mk hb_; clear hb_) | (go_at_call 93; (with_reducible refine (HI.out _ (by repeat (first | exact hv | refine Tb.At.alloc ?_ _ | refine Tb.At.bw ?_ _))).mono ?_); rintro e w_ ⟨rfl, hb_⟩; obtain ⟨y3, rfl⟩ := Soft.BW.mk hb_; clear hb_))
        refine bodyPost_ret (v := .tuple #[.agg #[.int .i64 (R).lo, .int .i64 (R).hi], .int .i64 0]) (by simp [results, Try.results45, go_sem]) rfl ?_
        refine ⟨rfl, ?_⟩
        (repeat (first | with_reducible exact bel_refl _ | with_reducible refine bel_alloc ?_ _ | with_reducible refine bel_bw _ ?_ | with_reducible refine bel_drew ?_ | with_reducible refine bel_drewN _ ?_ | ((with_reducible refine bel_set ?_ ?_ _); rotate_left; focus (first | (simp; done) | omega | (simp; omega))) | refine bel_step ?_ (by with_reducible assumption)))
      · have h2' : (invUp h.vol.ps (litS m d)).2 = false := by simpa using h2
        have HV := Lib.hid (show sndE h m d = (⟨0, 0⟩, 24) by unfold sndE; rw [if_pos h0, if_pos h1, if_neg h2])
        rw [HV.out]
        have HI := Lib.hid (fun W hW => CI.out (litE m d) W hW)
        rw [HL.out, h2'] at HI
        clear h0 h1 h2 h2' CI HV
        generalize (invUp h.vol.ps (litS m d)).1 = R at *
        have CC := Lib.hid (fun W hW => R2_CheckTank h W hW)
        have CM := Lib.hid (fun W => R2_Litres m d W)
        rw [H0.out] at CC
        rw [H1.out, HL.out] at CM
        clear H0 H1 HL hme
        generalize litS m d = V at *
        go_enter Try.func45, Try.ntmps45
        go_wp2_with (first | (go_at_call 94; (with_reducible refine (CC.out _ (by with_reducible repeat (first | exact hh | refine Ho.At.alloc ?_ _ | refine Ho.At.bw ?_ _ | refine Tk.At.alloc ?_ _ | refine Tk.At.bw ?_ _))).mono ?_); rintro e w_ ⟨rfl, hb_⟩; obtain ⟨y1, rfl⟩ := Soft.BW.mk hb_; clear hb_) | (go_at_call 43; (with_reducible refine (CM.out _).mono ?_); rintro e w_ ⟨rfl, hb_⟩; obtain ⟨y2, rfl⟩ := Soft.BW.mk hb_; clear hb_) | (go_at_call 93; (with_reducible refine (HI.out _ (by repeat (first | exact hv | refine Tb.At.alloc ?_ _ | refine Tb.At.bw ?_ _))).mono ?_); rintro e w_ ⟨rfl, hb_⟩; obtain ⟨y3, rfl⟩ := Soft.BW.mk hb_; clear hb_))
        refine bodyPost_ret (v := .tuple #[.agg #[.int .i64 ((⟨0, 0⟩ : Rg)).lo, .int .i64 ((⟨0, 0⟩ : Rg)).hi], .int .i64 24]) (by simp [results, Try.results45, go_sem]) rfl ?_
        refine ⟨rfl, ?_⟩
        (repeat (first | with_reducible exact bel_refl _ | with_reducible refine bel_alloc ?_ _ | with_reducible refine bel_bw _ ?_ | with_reducible refine bel_drew ?_ | with_reducible refine bel_drewN _ ?_ | ((with_reducible refine bel_set ?_ ?_ _); rotate_left; focus (first | (simp; done) | omega | (simp; omega))) | refine bel_step ?_ (by with_reducible assumption)))
    · rw [show sndE h m d = (⟨0, 0⟩, massErr m d) by unfold sndE; rw [if_pos h0, if_neg h1]]
      have d1 : (massErr m d == 0) = false := beq_eq_false_iff_ne.2 h1
      have d2 : (massErr m d != 0) = true := bne_iff_ne.2 h1
      have CC := Lib.hid (fun W hW => R2_CheckTank h W hW)
      have CM := Lib.hid (fun W => R2_Litres m d W)
      rw [H0.out] at CC
      clear h0 h1 H0 CI
      generalize massErr m d = E at *
      generalize litE m d = V at *
      go_enter Try.func45, Try.ntmps45
      go_wp2_with (first | (go_at_call 94; (with_reducible refine (CC.out _ (by with_reducible repeat (first | exact hh | refine Ho.At.alloc ?_ _ | refine Ho.At.bw ?_ _ | refine Tk.At.alloc ?_ _ | refine Tk.At.bw ?_ _))).mono ?_); rintro e w_ ⟨rfl, hb_⟩; obtain ⟨y1, rfl⟩ := Soft.BW.mk hb_; clear hb_) | (go_at_call 43; (with_reducible refine (CM.out _).mono ?_); rintro e w_ ⟨rfl, hb_⟩; obtain ⟨y2, rfl⟩ := Soft.BW.mk hb_; clear hb_))
      refine bodyPost_ret (v := .tuple #[.agg #[.int .i64 ((⟨0, 0⟩ : Rg)).lo, .int .i64 ((⟨0, 0⟩ : Rg)).hi], .int .i64 E]) (by simp [results, Try.results45, go_sem]) rfl ?_
      refine ⟨rfl, ?_⟩
      (repeat (first | with_reducible exact bel_refl _ | with_reducible refine bel_alloc ?_ _ | with_reducible refine bel_bw _ ?_ | with_reducible refine bel_drew ?_ | with_reducible refine bel_drewN _ ?_ | ((with_reducible refine bel_set ?_ ?_ _); rotate_left; focus (first | (simp; done) | omega | (simp; omega))) | refine bel_step ?_ (by with_reducible assumption)))
  · have e0 : tankErr h = 21 := by
      unfold tankErr at h0 ⊢
      split at h0 <;> simp_all
    rw [show sndE h m d = (⟨0, 0⟩, 21) by unfold sndE; rw [if_neg h0, e0]]
    have CC := Lib.hid (fun W hW => R2_CheckTank h W hW)
    rw [e0] at CC
    clear h0 e0
    go_enter Try.func45, Try.ntmps45
    go_wp2_with (first | (go_at_call 94; (with_reducible refine (CC.out _ (by with_reducible repeat (first | exact hh | refine Ho.At.alloc ?_ _ | refine Ho.At.bw ?_ _ | refine Tk.At.alloc ?_ _ | refine Tk.At.bw ?_ _))).mono ?_); rintro e w_ ⟨rfl, hb_⟩; obtain ⟨y1, rfl⟩ := Soft.BW.mk hb_; clear hb_))
    refine bodyPost_ret (v := .tuple #[.agg #[.int .i64 ((⟨0, 0⟩ : Rg)).lo, .int .i64 ((⟨0, 0⟩ : Rg)).hi], .int .i64 21]) (by simp [results, Try.results45, go_sem]) rfl ?_
    refine ⟨rfl, ?_⟩
    (repeat (first | with_reducible exact bel_refl _ | with_reducible refine bel_alloc ?_ _ | with_reducible refine bel_bw _ ?_ | with_reducible refine bel_drew ?_ | with_reducible refine bel_drewN _ ?_ | ((with_reducible refine bel_set ?_ ?_ _); rotate_left; focus (first | (simp; done) | omega | (simp; omega))) | refine bel_step ?_ (by with_reducible assumption)))

end Go.Proofs.Ytbjdgaeikihjbaa
