/-
  The reference's tanks: CheckLevel, Liquid, Surface, Ballast, Pump.
  Conditions: each theorem's own premises.
-/
import Derived.Test.YtbjdgaeikihjbaaGreatRfu
import Derived.Test.YtbjdgaeikihjbaaGreatLiq
import Derived.Test.YtbjdgaeikihjbaaGreatRfd
namespace Go.Proofs.YtbjdgaeikihjbaaGreat
set_option linter.unusedSimpArgs false
set_option linter.unusedVariables false
open Go.RowKit
set_option maxRecDepth 100000
set_option maxHeartbeats 8000000
attribute [local go_sem] Instr.field asAgg Soft.upon Soft.BW.cell_if Soft.BW.frozen_if Soft.cell_alloc_if Soft.frozen_alloc_if

theorem R2_CheckLevel (t : Tk) (l : Lv) (w : World) (hh : t.At w) :
    Calls Tryz.prog 39 #[.agg #[.int .i64 (t).id, .int .i64 ((t).along).lo, .int .i64 ((t).along).hi, .slice ((t).vol).p ((t).vol).n ((t).vol).c, .slice ((t).sur).p ((t).sur).n ((t).sur).c, .slice ((t).hei).p ((t).hei).n ((t).hei).c], .agg #[.int .i64 (l).tank, .bool (l).pressed, .int .i64 ((l).snd).lo, .int .i64 ((l).snd).hi, .int .i64 ((l).den).lo, .int .i64 ((l).den).hi]] w fun e w' => e = .returned (.int .i64 (levelErr t l)) ∧ Below w.heap.size w w' := by
  have hv := hh.1
  have CT := Lib.hid (fun W hW => R2_CheckTank t W hW)
  by_cases h0 : TankOk t
  · have hE : tankErr t = 0 := if_pos h0
    have hn : 1 ≤ t.vol.n := by rw [← hv.1]; exact h0.tabs.1.ok.pos
    rw [hE] at CT
    have H0 := Lib.hid h0; clear h0 hE
    have CL := Lib.hid (fun W hW => R2_Last t.vol W hW hn)
    by_cases c1 : l.tank = t.id
    · have d1 : (l.tank != t.id) = false := by rw [c1]; simp
      have C1 := Lib.hid c1; clear c1
      by_cases c2 : isDen l.den
      · have C2 := Lib.hid c2; clear c2
        by_cases c3 : isPart l.snd (firstX t.vol.ps) (lastX t.vol.ps)
        · have C3 := Lib.hid c3
          have CP := Lib.hid (fun W hW => R2_places t.vol l.snd W hW hn true (decide_eq_true c3).symm)
          obtain ⟨p1, p2, p3⟩ := c3
          cases hp : l.pressed
          · have HE := Lib.hid (levelErr_yes (l := l) H0.out ⟨C1.out, C2.out, C3.out, fun h => by rw [hp] at h; cases h⟩)
            clear p1 p2 p3
            go_enter Tryz.func39, Tryz.ntmps39
            go_wp2_with (first | (go_at_call 37; (with_reducible refine (CT.out _ (by with_reducible repeat (first | exact hh | refine Ho.At.alloc ?_ _ | refine Ho.At.bw ?_ _ | refine Tk.At.alloc ?_ _ | refine Tk.At.bw ?_ _))).mono ?_); rintro e w_ ⟨rfl, hb_⟩; obtain ⟨y1, rfl⟩ := Soft.BW.mk hb_; clear hb_) | (go_at_call 69; (with_reducible refine (R2_density l.den _ true (decide_eq_true C2.out).symm).mono ?_); rintro e w_ ⟨rfl, hb_⟩; obtain ⟨y2, rfl⟩ := Soft.BW.mk hb_; clear hb_) | (go_at_call 71; (with_reducible refine (CP.out _ (by repeat (first | exact hv | refine Tb.At.alloc ?_ _ | refine Tb.At.bw ?_ _))).mono ?_); rintro e w_ ⟨rfl, hb_⟩; obtain ⟨y3, rfl⟩ := Soft.BW.mk hb_; clear hb_) | (go_at_call 90; (with_reducible refine (CL.out _ (by repeat (first | exact hv | refine Tb.At.alloc ?_ _ | refine Tb.At.bw ?_ _))).mono ?_); rintro e w_ ⟨rfl, hb_⟩; obtain ⟨y4, rfl⟩ := Soft.BW.mk hb_; clear hb_))
            go_ret
            refine ⟨ret_int HE.out.symm, ?_⟩
            (repeat (first | with_reducible exact bel_refl _ | with_reducible refine bel_alloc ?_ _ | with_reducible refine bel_bw _ ?_ | with_reducible refine bel_drew ?_ | with_reducible refine bel_drewN _ ?_ | ((with_reducible refine bel_set ?_ ?_ _); rotate_left; focus (first | (simp; done) | omega | (simp; omega))) | refine bel_step ?_ (by with_reducible assumption)))
          · by_cases c4 : l.snd.lo = lastX t.vol.ps
            · have HE := Lib.hid (levelErr_yes (l := l) H0.out ⟨C1.out, C2.out, C3.out, fun _ => c4⟩)
              have c5 : l.snd.hi = lastX t.vol.ps := by omega
              have d4 : (l.snd.lo == lastX t.vol.ps) = true := by rw [c4]; simp
              have d5 : (l.snd.hi == lastX t.vol.ps) = true := by rw [c5]; simp
              have d4' : decide (l.snd.lo = lastX t.vol.ps) = true := decide_eq_true c4
              have d5' : decide (l.snd.hi = lastX t.vol.ps) = true := decide_eq_true c5
              clear p1 p2 p3 c4 c5
              generalize lastX t.vol.ps = X at *
              go_enter Tryz.func39, Tryz.ntmps39
              go_wp2_with (first | (go_at_call 37; (with_reducible refine (CT.out _ (by with_reducible repeat (first | exact hh | refine Ho.At.alloc ?_ _ | refine Ho.At.bw ?_ _ | refine Tk.At.alloc ?_ _ | refine Tk.At.bw ?_ _))).mono ?_); rintro e w_ ⟨rfl, hb_⟩; obtain ⟨y1, rfl⟩ := Soft.BW.mk hb_; clear hb_) | (go_at_call 69; (with_reducible refine (R2_density l.den _ true (decide_eq_true C2.out).symm).mono ?_); rintro e w_ ⟨rfl, hb_⟩; obtain ⟨y2, rfl⟩ := Soft.BW.mk hb_; clear hb_) | (go_at_call 71; (with_reducible refine (CP.out _ (by repeat (first | exact hv | refine Tb.At.alloc ?_ _ | refine Tb.At.bw ?_ _))).mono ?_); rintro e w_ ⟨rfl, hb_⟩; obtain ⟨y3, rfl⟩ := Soft.BW.mk hb_; clear hb_) | (go_at_call 90; (with_reducible refine (CL.out _ (by repeat (first | exact hv | refine Tb.At.alloc ?_ _ | refine Tb.At.bw ?_ _))).mono ?_); rintro e w_ ⟨rfl, hb_⟩; obtain ⟨y4, rfl⟩ := Soft.BW.mk hb_; clear hb_))
              go_ret
              refine ⟨ret_int HE.out.symm, ?_⟩
              (repeat (first | with_reducible exact bel_refl _ | with_reducible refine bel_alloc ?_ _ | with_reducible refine bel_bw _ ?_ | with_reducible refine bel_drew ?_ | with_reducible refine bel_drewN _ ?_ | ((with_reducible refine bel_set ?_ ?_ _); rotate_left; focus (first | (simp; done) | omega | (simp; omega))) | refine bel_step ?_ (by with_reducible assumption)))
            · have HE := Lib.hid (levelErr_no (l := l) H0.out (fun h => c4 (h.2.2.2 hp)))
              have d4 : (l.snd.lo == lastX t.vol.ps) = false := beq_eq_false_iff_ne.2 c4
              have d4' : decide (l.snd.lo = lastX t.vol.ps) = false := decide_eq_false c4
              clear p1 p2 p3 c4
              generalize lastX t.vol.ps = X at *
              go_enter Tryz.func39, Tryz.ntmps39
              go_wp2_with (first | (go_at_call 37; (with_reducible refine (CT.out _ (by with_reducible repeat (first | exact hh | refine Ho.At.alloc ?_ _ | refine Ho.At.bw ?_ _ | refine Tk.At.alloc ?_ _ | refine Tk.At.bw ?_ _))).mono ?_); rintro e w_ ⟨rfl, hb_⟩; obtain ⟨y1, rfl⟩ := Soft.BW.mk hb_; clear hb_) | (go_at_call 69; (with_reducible refine (R2_density l.den _ true (decide_eq_true C2.out).symm).mono ?_); rintro e w_ ⟨rfl, hb_⟩; obtain ⟨y2, rfl⟩ := Soft.BW.mk hb_; clear hb_) | (go_at_call 71; (with_reducible refine (CP.out _ (by repeat (first | exact hv | refine Tb.At.alloc ?_ _ | refine Tb.At.bw ?_ _))).mono ?_); rintro e w_ ⟨rfl, hb_⟩; obtain ⟨y3, rfl⟩ := Soft.BW.mk hb_; clear hb_) | (go_at_call 90; (with_reducible refine (CL.out _ (by repeat (first | exact hv | refine Tb.At.alloc ?_ _ | refine Tb.At.bw ?_ _))).mono ?_); rintro e w_ ⟨rfl, hb_⟩; obtain ⟨y4, rfl⟩ := Soft.BW.mk hb_; clear hb_))
              go_ret
              refine ⟨ret_int HE.out.symm, ?_⟩
              (repeat (first | with_reducible exact bel_refl _ | with_reducible refine bel_alloc ?_ _ | with_reducible refine bel_bw _ ?_ | with_reducible refine bel_drew ?_ | with_reducible refine bel_drewN _ ?_ | ((with_reducible refine bel_set ?_ ?_ _); rotate_left; focus (first | (simp; done) | omega | (simp; omega))) | refine bel_step ?_ (by with_reducible assumption)))
        · have HE := Lib.hid (levelErr_no (l := l) H0.out (fun h => c3 h.2.2.1))
          have CP := Lib.hid (fun W hW => R2_places t.vol l.snd W hW hn false (decide_eq_false c3).symm)
          clear c3
          go_enter Tryz.func39, Tryz.ntmps39
          go_wp2_with (first | (go_at_call 37; (with_reducible refine (CT.out _ (by with_reducible repeat (first | exact hh | refine Ho.At.alloc ?_ _ | refine Ho.At.bw ?_ _ | refine Tk.At.alloc ?_ _ | refine Tk.At.bw ?_ _))).mono ?_); rintro e w_ ⟨rfl, hb_⟩; obtain ⟨y1, rfl⟩ := Soft.BW.mk hb_; clear hb_) | (go_at_call 69; (with_reducible refine (R2_density l.den _ true (decide_eq_true C2.out).symm).mono ?_); rintro e w_ ⟨rfl, hb_⟩; obtain ⟨y2, rfl⟩ := Soft.BW.mk hb_; clear hb_) | (go_at_call 71; (with_reducible refine (CP.out _ (by repeat (first | exact hv | refine Tb.At.alloc ?_ _ | refine Tb.At.bw ?_ _))).mono ?_); rintro e w_ ⟨rfl, hb_⟩; obtain ⟨y3, rfl⟩ := Soft.BW.mk hb_; clear hb_))
          go_ret
          refine ⟨ret_int HE.out.symm, ?_⟩
          (repeat (first | with_reducible exact bel_refl _ | with_reducible refine bel_alloc ?_ _ | with_reducible refine bel_bw _ ?_ | with_reducible refine bel_drew ?_ | with_reducible refine bel_drewN _ ?_ | ((with_reducible refine bel_set ?_ ?_ _); rotate_left; focus (first | (simp; done) | omega | (simp; omega))) | refine bel_step ?_ (by with_reducible assumption)))
      · have HE := Lib.hid (levelErr_no (l := l) H0.out (fun h => c2 h.2.1))
        have C2 := Lib.hid c2; clear c2
        go_enter Tryz.func39, Tryz.ntmps39
        go_wp2_with (first | (go_at_call 37; (with_reducible refine (CT.out _ (by with_reducible repeat (first | exact hh | refine Ho.At.alloc ?_ _ | refine Ho.At.bw ?_ _ | refine Tk.At.alloc ?_ _ | refine Tk.At.bw ?_ _))).mono ?_); rintro e w_ ⟨rfl, hb_⟩; obtain ⟨y1, rfl⟩ := Soft.BW.mk hb_; clear hb_) | (go_at_call 69; (with_reducible refine (R2_density l.den _ false (decide_eq_false C2.out).symm).mono ?_); rintro e w_ ⟨rfl, hb_⟩; obtain ⟨y2, rfl⟩ := Soft.BW.mk hb_; clear hb_))
        go_ret
        refine ⟨ret_int HE.out.symm, ?_⟩
        (repeat (first | with_reducible exact bel_refl _ | with_reducible refine bel_alloc ?_ _ | with_reducible refine bel_bw _ ?_ | with_reducible refine bel_drew ?_ | with_reducible refine bel_drewN _ ?_ | ((with_reducible refine bel_set ?_ ?_ _); rotate_left; focus (first | (simp; done) | omega | (simp; omega))) | refine bel_step ?_ (by with_reducible assumption)))
    · have HE := Lib.hid (levelErr_no (l := l) H0.out (fun h => c1 h.1))
      have d1 : (l.tank != t.id) = true := bne_iff_ne.2 c1
      clear c1
      go_enter Tryz.func39, Tryz.ntmps39
      go_wp2_with (first | (go_at_call 37; (with_reducible refine (CT.out _ (by with_reducible repeat (first | exact hh | refine Ho.At.alloc ?_ _ | refine Ho.At.bw ?_ _ | refine Tk.At.alloc ?_ _ | refine Tk.At.bw ?_ _))).mono ?_); rintro e w_ ⟨rfl, hb_⟩; obtain ⟨y1, rfl⟩ := Soft.BW.mk hb_; clear hb_))
      go_ret
      refine ⟨ret_int HE.out.symm, ?_⟩
      (repeat (first | with_reducible exact bel_refl _ | with_reducible refine bel_alloc ?_ _ | with_reducible refine bel_bw _ ?_ | with_reducible refine bel_drew ?_ | with_reducible refine bel_drewN _ ?_ | ((with_reducible refine bel_set ?_ ?_ _); rotate_left; focus (first | (simp; done) | omega | (simp; omega))) | refine bel_step ?_ (by with_reducible assumption)))
  · have hE : tankErr t = 21 := if_neg h0
    have HE := Lib.hid (show levelErr t l = 21 from if_neg h0)
    rw [hE] at CT
    clear h0 hE
    go_enter Tryz.func39, Tryz.ntmps39
    go_wp2_with (first | (go_at_call 37; (with_reducible refine (CT.out _ (by with_reducible repeat (first | exact hh | refine Ho.At.alloc ?_ _ | refine Ho.At.bw ?_ _ | refine Tk.At.alloc ?_ _ | refine Tk.At.bw ?_ _))).mono ?_); rintro e w_ ⟨rfl, hb_⟩; obtain ⟨y1, rfl⟩ := Soft.BW.mk hb_; clear hb_))
    go_ret
    refine ⟨ret_int HE.out.symm, ?_⟩
    (repeat (first | with_reducible exact bel_refl _ | with_reducible refine bel_alloc ?_ _ | with_reducible refine bel_bw _ ?_ | with_reducible refine bel_drew ?_ | with_reducible refine bel_drewN _ ?_ | ((with_reducible refine bel_set ?_ ?_ _); rotate_left; focus (first | (simp; done) | omega | (simp; omega))) | refine bel_step ?_ (by with_reducible assumption)))

theorem R2_Liquid (t : Tk) (l : Lv) (w : World) (hh : t.At w) :
    Calls Tryz.prog 29 #[.agg #[.int .i64 (t).id, .int .i64 ((t).along).lo, .int .i64 ((t).along).hi, .slice ((t).vol).p ((t).vol).n ((t).vol).c, .slice ((t).sur).p ((t).sur).n ((t).sur).c, .slice ((t).hei).p ((t).hei).n ((t).hei).c], .agg #[.int .i64 (l).tank, .bool (l).pressed, .int .i64 ((l).snd).lo, .int .i64 ((l).snd).hi, .int .i64 ((l).den).lo, .int .i64 ((l).den).hi]] w fun e w' => e = .returned (.tuple #[.agg #[.int .i64 (liqE t l).lo, .int .i64 (liqE t l).hi], .int .i64 (levelErr t l)]) ∧ Below w.heap.size w w' := by
  have hv := hh.1
  have CCL := Lib.hid (fun W hW => R2_CheckLevel t l W hW)
  by_cases hc : levelErr t l = 0
  · obtain ⟨h0, h1⟩ := level_ok hc
    rw [hc] at CCL
    have HV := Lib.hid (show liqE t l = weighS (heldS t l) l.den from if_pos hc)
    have CO : Hid (∀ W, t.vol.At W → Calls Tryz.prog 87 #[.agg #[.slice (t.vol).p (t.vol).n (t.vol).c], .agg #[.int .i64 (l.snd).lo, .int .i64 (l.snd).hi]] W fun e w' => e = .returned (.agg #[.int .i64 (heldS t l).lo, .int .i64 (heldS t l).hi]) ∧ Below W.heap.size W w') := Lib.hid (fun W hW => R2_over t.vol l.snd W hW h0.tabs.1 h1.2.2.1)
    have CW := Lib.hid (fun W => R2_heavy (heldS t l) l.den W (overE_pos h0.tabs.1 _) (lden_in h1))
    rw [HV.out, hc]
    clear hc h0 h1 HV
    generalize heldS t l = vv at *
    generalize weighS vv l.den = rr at *
    go_enter Tryz.func29, Tryz.ntmps29
    go_wp2_with (first | (go_at_call 39; (with_reducible refine (CCL.out _ (by with_reducible repeat (first | exact hh | refine Ho.At.alloc ?_ _ | refine Ho.At.bw ?_ _ | refine Tk.At.alloc ?_ _ | refine Tk.At.bw ?_ _))).mono ?_); rintro e w_ ⟨rfl, hb_⟩; obtain ⟨y1, rfl⟩ := Soft.BW.mk hb_; clear hb_) | (go_at_call 87; (with_reducible refine (CO.out _ (by repeat (first | exact hv | refine Tb.At.alloc ?_ _ | refine Tb.At.bw ?_ _))).mono ?_); rintro e w_ ⟨rfl, hb_⟩; obtain ⟨y2, rfl⟩ := Soft.BW.mk hb_; clear hb_) | (go_at_call 47; (with_reducible refine (CW.out _).mono ?_); rintro e w_ ⟨rfl, hb_⟩; obtain ⟨y3, rfl⟩ := Soft.BW.mk hb_; clear hb_))
    refine bodyPost_ret (v := .tuple #[.agg #[.int .i64 rr.lo, .int .i64 rr.hi], .int .i64 0]) (by simp [results, Tryz.results29, go_sem]) rfl ?_
    refine ⟨rfl, ?_⟩
    (repeat (first | with_reducible exact bel_refl _ | with_reducible refine bel_alloc ?_ _ | with_reducible refine bel_bw _ ?_ | with_reducible refine bel_drew ?_ | with_reducible refine bel_drewN _ ?_ | ((with_reducible refine bel_set ?_ ?_ _); rotate_left; focus (first | (simp; done) | omega | (simp; omega))) | refine bel_step ?_ (by with_reducible assumption)))
  · have HV := Lib.hid (show liqE t l = ⟨0, 0⟩ from if_neg hc)
    have d0 : (levelErr t l != 0) = true := bne_iff_ne.2 hc
    rw [HV.out]
    clear hc HV
    generalize levelErr t l = E at *
    go_enter Tryz.func29, Tryz.ntmps29
    go_wp2_with (first | (go_at_call 39; (with_reducible refine (CCL.out _ (by with_reducible repeat (first | exact hh | refine Ho.At.alloc ?_ _ | refine Ho.At.bw ?_ _ | refine Tk.At.alloc ?_ _ | refine Tk.At.bw ?_ _))).mono ?_); rintro e w_ ⟨rfl, hb_⟩; obtain ⟨y1, rfl⟩ := Soft.BW.mk hb_; clear hb_))
    refine bodyPost_ret (v := .tuple #[.agg #[.int .i64 0, .int .i64 0], .int .i64 E]) (by simp [results, Tryz.results29, go_sem]) rfl ?_
    refine ⟨rfl, ?_⟩
    (repeat (first | with_reducible exact bel_refl _ | with_reducible refine bel_alloc ?_ _ | with_reducible refine bel_bw _ ?_ | with_reducible refine bel_drew ?_ | with_reducible refine bel_drewN _ ?_ | ((with_reducible refine bel_set ?_ ?_ _); rotate_left; focus (first | (simp; done) | omega | (simp; omega))) | refine bel_step ?_ (by with_reducible assumption)))

theorem R2_Ballast (t : Tk) (l : Lv) (w : World) (hh : t.At w) :
    Calls Tryz.prog 33 #[.agg #[.int .i64 (t).id, .int .i64 ((t).along).lo, .int .i64 ((t).along).hi, .slice ((t).vol).p ((t).vol).n ((t).vol).c, .slice ((t).sur).p ((t).sur).n ((t).sur).c, .slice ((t).hei).p ((t).hei).n ((t).hei).c], .agg #[.int .i64 (l).tank, .bool (l).pressed, .int .i64 ((l).snd).lo, .int .i64 ((l).snd).hi, .int .i64 ((l).den).lo, .int .i64 ((l).den).hi]] w fun e w' => e = .returned (.tuple #[.agg #[.int .i64 ((balE t l).mass).lo, .int .i64 ((balE t l).mass).hi, .int .i64 ((balE t l).along).lo, .int .i64 ((balE t l).along).hi, .int .i64 ((balE t l).high).lo, .int .i64 ((balE t l).high).hi], .int .i64 (levelErr t l)]) ∧ Below w.heap.size w w' := by
  have hx := hh.2.2
  have CLI := Lib.hid (fun W hW => R2_Liquid t l W hW)
  by_cases hc : levelErr t l = 0
  · obtain ⟨h0, h1⟩ := level_ok hc
    have HL : liqE t l = weighS (heldS t l) l.den := if_pos hc
    rw [hc, HL] at CLI
    have HV := Lib.hid (show balE t l = ⟨weighS (heldS t l) l.den, t.along, (overE t.hei.ps l.snd).1⟩ from if_pos hc)
    have CO := Lib.hid (fun W hW => R2_over t.hei l.snd W hW h0.tabs.2.2.1 (by have := h1.2.2.1; rw [← h0.tabs.2.2.2.1, ← h0.tabs.2.2.2.2] at this; exact this))
    rw [HV.out, hc]
    clear hc h0 h1 HV HL
    generalize weighS (heldS t l) l.den = rr at *
    generalize (overE t.hei.ps l.snd).1 = oo at *
    dsimp only
    go_enter Tryz.func33, Tryz.ntmps33
    go_wp2_with (first | (go_at_call 29; (with_reducible refine (CLI.out _ (by with_reducible repeat (first | exact hh | refine Ho.At.alloc ?_ _ | refine Ho.At.bw ?_ _ | refine Tk.At.alloc ?_ _ | refine Tk.At.bw ?_ _))).mono ?_); rintro e w_ ⟨rfl, hb_⟩; obtain ⟨y1, rfl⟩ := Soft.BW.mk hb_; clear hb_))
    (refine Soft.region0 [0, 1, 2, 3, 4, 5, 6, 7, 8] [9, 10] (by kernel_rfl) (by kernel_rfl) (by kernel_rfl) (by kernel_rfl) ?_; change Soft.wpSoft _ _ _ _ _ [_, _, _, _, _, _, _, _, _] _; (repeat (refine Soft.soft_step (fun K hK => ?_); go_simp; (try go_bits); first | (refine hK _ ?_; clear hK K) | (apply Exists.intro; refine ⟨fun x => ?_, hK _ ?_⟩; ((go_at_call 87; with_reducible exact (CO.out _ (by repeat (first | exact hx | refine Tb.At.alloc ?_ _ | refine Tb.At.bw ?_ _))))); clear hK K))); refine Soft.soft_nil ?_; intro xw; change wpList _ _ _ [_, _] _ _)
    change wpList _ _ _ [_, _] _ _
    go_wp2_with fail
    refine bodyPost_ret (v := .tuple #[.agg #[.int .i64 rr.lo, .int .i64 rr.hi, .int .i64 t.along.lo, .int .i64 t.along.hi, .int .i64 oo.lo, .int .i64 oo.hi], .int .i64 0]) (by simp [results, Tryz.results33, go_sem]) rfl ?_
    refine ⟨rfl, ?_⟩
    (repeat (first | with_reducible exact bel_refl _ | with_reducible refine bel_alloc ?_ _ | with_reducible refine bel_bw _ ?_ | with_reducible refine bel_drew ?_ | with_reducible refine bel_drewN _ ?_ | ((with_reducible refine bel_set ?_ ?_ _); rotate_left; focus (first | (simp; done) | omega | (simp; omega))) | refine bel_step ?_ (by with_reducible assumption)))
  · have HV := Lib.hid (show balE t l = ⟨⟨0, 0⟩, ⟨0, 0⟩, ⟨0, 0⟩⟩ from if_neg hc)
    have d0 : (levelErr t l != 0) = true := bne_iff_ne.2 hc
    rw [HV.out]
    clear hc HV
    generalize levelErr t l = E at *
    generalize liqE t l = L at *
    go_enter Tryz.func33, Tryz.ntmps33
    go_wp2_with (first | (go_at_call 29; (with_reducible refine (CLI.out _ (by with_reducible repeat (first | exact hh | refine Ho.At.alloc ?_ _ | refine Ho.At.bw ?_ _ | refine Tk.At.alloc ?_ _ | refine Tk.At.bw ?_ _))).mono ?_); rintro e w_ ⟨rfl, hb_⟩; obtain ⟨y1, rfl⟩ := Soft.BW.mk hb_; clear hb_))
    refine bodyPost_ret (v := .tuple #[.agg #[.int .i64 (((⟨⟨0, 0⟩, ⟨0, 0⟩, ⟨0, 0⟩⟩ : Wt)).mass).lo, .int .i64 (((⟨⟨0, 0⟩, ⟨0, 0⟩, ⟨0, 0⟩⟩ : Wt)).mass).hi, .int .i64 (((⟨⟨0, 0⟩, ⟨0, 0⟩, ⟨0, 0⟩⟩ : Wt)).along).lo, .int .i64 (((⟨⟨0, 0⟩, ⟨0, 0⟩, ⟨0, 0⟩⟩ : Wt)).along).hi, .int .i64 (((⟨⟨0, 0⟩, ⟨0, 0⟩, ⟨0, 0⟩⟩ : Wt)).high).lo, .int .i64 (((⟨⟨0, 0⟩, ⟨0, 0⟩, ⟨0, 0⟩⟩ : Wt)).high).hi], .int .i64 E]) (by simp [results, Tryz.results33, go_sem]) rfl ?_
    refine ⟨rfl, ?_⟩
    (repeat (first | with_reducible exact bel_refl _ | with_reducible refine bel_alloc ?_ _ | with_reducible refine bel_bw _ ?_ | with_reducible refine bel_drew ?_ | with_reducible refine bel_drewN _ ?_ | ((with_reducible refine bel_set ?_ ?_ _); rotate_left; focus (first | (simp; done) | omega | (simp; omega))) | refine bel_step ?_ (by with_reducible assumption)))

theorem R2_Surface (t : Tk) (l : Lv) (w : World) (hh : t.At w) :
    Calls Tryz.prog 31 #[.agg #[.int .i64 (t).id, .int .i64 ((t).along).lo, .int .i64 ((t).along).hi, .slice ((t).vol).p ((t).vol).n ((t).vol).c, .slice ((t).sur).p ((t).sur).n ((t).sur).c, .slice ((t).hei).p ((t).hei).n ((t).hei).c], .agg #[.int .i64 (l).tank, .bool (l).pressed, .int .i64 ((l).snd).lo, .int .i64 ((l).snd).hi, .int .i64 ((l).den).lo, .int .i64 ((l).den).hi]] w fun e w' => e = .returned (.tuple #[.agg #[.int .i64 (srfE t l).lo, .int .i64 (srfE t l).hi], .int .i64 (levelErr t l)]) ∧ Below w.heap.size w w' := by
  have hv := hh.1
  have hs := hh.2.1
  have CCL := Lib.hid (fun W hW => R2_CheckLevel t l W hW)
  by_cases hc : levelErr t l = 0
  · obtain ⟨h0, h1⟩ := level_ok hc
    rw [hc] at CCL
    have HV0 : srfE t l = srfS t l := if_pos hc
    have CO : Hid (∀ W, t.vol.At W → Calls Tryz.prog 87 #[.agg #[.slice (t.vol).p (t.vol).n (t.vol).c], .agg #[.int .i64 (l.snd).lo, .int .i64 (l.snd).hi]] W fun e w' => e = .returned (.agg #[.int .i64 (heldS t l).lo, .int .i64 (heldS t l).hi]) ∧ Below W.heap.size W w') := Lib.hid (fun W hW => R2_over t.vol l.snd W hW h0.tabs.1 h1.2.2.1)
    have CS := Lib.hid (fun W hW => R2_over t.sur l.snd W hW h0.tabs.2.1.1 (by have := h1.2.2.1; rw [← h0.tabs.2.1.2.1, ← h0.tabs.2.1.2.2] at this; exact this))
    have hsp := overE_pos h0.tabs.2.1.1 l.snd
    have CW := Lib.hid (fun W => R2_heavy (overE t.sur.ps l.snd).1 l.den W hsp (lden_in h1))
    have CZ : Hid (∀ W, Calls Tryz.prog 47 #[.agg #[.int .i64 0, .int .i64 (overE t.sur.ps l.snd).1.hi], .agg #[.int .i64 (l.den).lo, .int .i64 (l.den).hi]] W fun e w' => e = .returned (.agg #[.int .i64 0, .int .i64 (weighS (overE t.sur.ps l.snd).1 l.den).hi]) ∧ Below W.heap.size W w') := Lib.hid (fun W => by
      have := R2_heavy ⟨0, (overE t.sur.ps l.snd).1.hi⟩ l.den W ⟨Int.le_refl _, by have := hsp.a; have := hsp.b; dsimp only; omega, hsp.c⟩ (lden_in h1)
      rw [show weighS ⟨0, (overE t.sur.ps l.snd).1.hi⟩ l.den = ⟨0, (weighS (overE t.sur.ps l.snd).1 l.den).hi⟩ by unfold weighS; simp] at this
      exact this)
    rw [HV0, hc]
    by_cases c1 : l.pressed = true ∨ (heldS t l).hi = 0
    · have HV := Lib.hid (show srfS t l = ⟨0, 0⟩ from if_pos c1)
      rw [HV.out]
      clear hc h0 h1 HV HV0 hsp CW CZ CS
      generalize heldS t l = vv at *
      obtain ⟨lt_, lp, ls, ld⟩ := l
      dsimp only at *
      cases lp
      · have c2 : vv.hi = 0 := by rcases c1 with c | c; cases c; exact c
        have d2 : (vv.hi == 0) = true := by rw [c2]; rfl
        clear c1 c2
        go_enter Tryz.func31, Tryz.ntmps31
        go_wp2_with (first | (go_at_call 39; (with_reducible refine (CCL.out _ (by with_reducible repeat (first | exact hh | refine Ho.At.alloc ?_ _ | refine Ho.At.bw ?_ _ | refine Tk.At.alloc ?_ _ | refine Tk.At.bw ?_ _))).mono ?_); rintro e w_ ⟨rfl, hb_⟩; obtain ⟨y1, rfl⟩ := Soft.BW.mk hb_; clear hb_) | (go_at_call 87; (with_reducible refine (CO.out _ (by repeat (first | exact hv | refine Tb.At.alloc ?_ _ | refine Tb.At.bw ?_ _))).mono ?_); rintro e w_ ⟨rfl, hb_⟩; obtain ⟨y2, rfl⟩ := Soft.BW.mk hb_; clear hb_))
        refine bodyPost_ret (v := .tuple #[.agg #[.int .i64 0, .int .i64 0], .int .i64 0]) (by simp [results, Tryz.results31, go_sem]) rfl ?_
        refine ⟨rfl, ?_⟩
        (repeat (first | with_reducible exact bel_refl _ | with_reducible refine bel_alloc ?_ _ | with_reducible refine bel_bw _ ?_ | with_reducible refine bel_drew ?_ | with_reducible refine bel_drewN _ ?_ | ((with_reducible refine bel_set ?_ ?_ _); rotate_left; focus (first | (simp; done) | omega | (simp; omega))) | refine bel_step ?_ (by with_reducible assumption)))
      · clear c1
        go_enter Tryz.func31, Tryz.ntmps31
        go_wp2_with (first | (go_at_call 39; (with_reducible refine (CCL.out _ (by with_reducible repeat (first | exact hh | refine Ho.At.alloc ?_ _ | refine Ho.At.bw ?_ _ | refine Tk.At.alloc ?_ _ | refine Tk.At.bw ?_ _))).mono ?_); rintro e w_ ⟨rfl, hb_⟩; obtain ⟨y1, rfl⟩ := Soft.BW.mk hb_; clear hb_) | (go_at_call 87; (with_reducible refine (CO.out _ (by repeat (first | exact hv | refine Tb.At.alloc ?_ _ | refine Tb.At.bw ?_ _))).mono ?_); rintro e w_ ⟨rfl, hb_⟩; obtain ⟨y2, rfl⟩ := Soft.BW.mk hb_; clear hb_))
        refine bodyPost_ret (v := .tuple #[.agg #[.int .i64 0, .int .i64 0], .int .i64 0]) (by simp [results, Tryz.results31, go_sem]) rfl ?_
        refine ⟨rfl, ?_⟩
        (repeat (first | with_reducible exact bel_refl _ | with_reducible refine bel_alloc ?_ _ | with_reducible refine bel_bw _ ?_ | with_reducible refine bel_drew ?_ | with_reducible refine bel_drewN _ ?_ | ((with_reducible refine bel_set ?_ ?_ _); rotate_left; focus (first | (simp; done) | omega | (simp; omega))) | refine bel_step ?_ (by with_reducible assumption)))
    · have hp : l.pressed = false := by
        cases hp : l.pressed
        · rfl
        · exact absurd (.inl hp) c1
      have d2 : ((heldS t l).hi == 0) = false := beq_eq_false_iff_ne.2 (fun e => c1 (.inr e))
      by_cases c2 : (heldS t l).lo = 0
      · have HV := Lib.hid (show srfS t l = ⟨0, (weighS (overE t.sur.ps l.snd).1 l.den).hi⟩ by unfold srfS; rw [if_neg c1, if_pos c2])
        have d3 : ((heldS t l).lo == 0) = true := by rw [c2]; rfl
        rw [HV.out]
        clear hc h0 h1 HV HV0 hsp CW c1 c2
        generalize heldS t l = vv at *
        generalize (weighS (overE t.sur.ps l.snd).1 l.den).hi = ww at *
        generalize (overE t.sur.ps l.snd).1 = ss at *
        obtain ⟨lt_, lp, ls, ld⟩ := l
        dsimp only at *
        subst hp
        go_enter Tryz.func31, Tryz.ntmps31
        go_wp2_with (first | (go_at_call 39; (with_reducible refine (CCL.out _ (by with_reducible repeat (first | exact hh | refine Ho.At.alloc ?_ _ | refine Ho.At.bw ?_ _ | refine Tk.At.alloc ?_ _ | refine Tk.At.bw ?_ _))).mono ?_); rintro e w_ ⟨rfl, hb_⟩; obtain ⟨y1, rfl⟩ := Soft.BW.mk hb_; clear hb_) | (go_at_call 87; (with_reducible refine (CO.out _ (by repeat (first | exact hv | refine Tb.At.alloc ?_ _ | refine Tb.At.bw ?_ _))).mono ?_); rintro e w_ ⟨rfl, hb_⟩; obtain ⟨y2, rfl⟩ := Soft.BW.mk hb_; clear hb_) | ((go_at_call 87; (with_reducible refine (CS.out _ (by repeat (first | exact hs | refine Tb.At.alloc ?_ _ | refine Tb.At.bw ?_ _))).mono ?_); rintro e w_ ⟨rfl, hb_⟩; obtain ⟨y3, rfl⟩ := Soft.BW.mk hb_; clear hb_); have e3 := setFst y3.w (.int .i64 ss.lo) (.int .i64 ss.hi) (.int .i64 0) 23) | (go_at_call 47; (with_reducible refine (CZ.out _).mono ?_); rintro e w_ ⟨rfl, hb_⟩; obtain ⟨y4, rfl⟩ := Soft.BW.mk hb_; clear hb_))
        refine bodyPost_ret (v := .tuple #[.agg #[.int .i64 0, .int .i64 ww], .int .i64 0]) (by simp [results, Tryz.results31, go_sem]) rfl ?_
        refine ⟨rfl, ?_⟩
        (repeat (first | with_reducible exact bel_refl _ | with_reducible refine bel_alloc ?_ _ | with_reducible refine bel_bw _ ?_ | with_reducible refine bel_drew ?_ | with_reducible refine bel_drewN _ ?_ | ((with_reducible refine bel_set ?_ ?_ _); rotate_left; focus (first | (simp; done) | omega | (simp; omega))) | refine bel_step ?_ (by with_reducible assumption)))
      · have HV := Lib.hid (show srfS t l = weighS (overE t.sur.ps l.snd).1 l.den by unfold srfS; rw [if_neg c1, if_neg c2])
        have d3 : ((heldS t l).lo == 0) = false := beq_eq_false_iff_ne.2 c2
        rw [HV.out]
        clear hc h0 h1 HV HV0 hsp CZ c1 c2
        generalize heldS t l = vv at *
        generalize weighS (overE t.sur.ps l.snd).1 l.den = ww at *
        generalize (overE t.sur.ps l.snd).1 = ss at *
        obtain ⟨lt_, lp, ls, ld⟩ := l
        dsimp only at *
        subst hp
        go_enter Tryz.func31, Tryz.ntmps31
        go_wp2_with (first | (go_at_call 39; (with_reducible refine (CCL.out _ (by with_reducible repeat (first | exact hh | refine Ho.At.alloc ?_ _ | refine Ho.At.bw ?_ _ | refine Tk.At.alloc ?_ _ | refine Tk.At.bw ?_ _))).mono ?_); rintro e w_ ⟨rfl, hb_⟩; obtain ⟨y1, rfl⟩ := Soft.BW.mk hb_; clear hb_) | (go_at_call 87; (with_reducible refine (CO.out _ (by repeat (first | exact hv | refine Tb.At.alloc ?_ _ | refine Tb.At.bw ?_ _))).mono ?_); rintro e w_ ⟨rfl, hb_⟩; obtain ⟨y2, rfl⟩ := Soft.BW.mk hb_; clear hb_) | (go_at_call 87; (with_reducible refine (CS.out _ (by repeat (first | exact hs | refine Tb.At.alloc ?_ _ | refine Tb.At.bw ?_ _))).mono ?_); rintro e w_ ⟨rfl, hb_⟩; obtain ⟨y3, rfl⟩ := Soft.BW.mk hb_; clear hb_) | (go_at_call 47; (with_reducible refine (CW.out _).mono ?_); rintro e w_ ⟨rfl, hb_⟩; obtain ⟨y4, rfl⟩ := Soft.BW.mk hb_; clear hb_))
        refine bodyPost_ret (v := .tuple #[.agg #[.int .i64 ww.lo, .int .i64 ww.hi], .int .i64 0]) (by simp [results, Tryz.results31, go_sem]) rfl ?_
        refine ⟨rfl, ?_⟩
        (repeat (first | with_reducible exact bel_refl _ | with_reducible refine bel_alloc ?_ _ | with_reducible refine bel_bw _ ?_ | with_reducible refine bel_drew ?_ | with_reducible refine bel_drewN _ ?_ | ((with_reducible refine bel_set ?_ ?_ _); rotate_left; focus (first | (simp; done) | omega | (simp; omega))) | refine bel_step ?_ (by with_reducible assumption)))
  · have HV := Lib.hid (show srfE t l = ⟨0, 0⟩ from if_neg hc)
    have d0 : (levelErr t l != 0) = true := bne_iff_ne.2 hc
    rw [HV.out]
    clear hc HV
    generalize levelErr t l = E at *
    go_enter Tryz.func31, Tryz.ntmps31
    go_wp2_with (first | (go_at_call 39; (with_reducible refine (CCL.out _ (by with_reducible repeat (first | exact hh | refine Ho.At.alloc ?_ _ | refine Ho.At.bw ?_ _ | refine Tk.At.alloc ?_ _ | refine Tk.At.bw ?_ _))).mono ?_); rintro e w_ ⟨rfl, hb_⟩; obtain ⟨y1, rfl⟩ := Soft.BW.mk hb_; clear hb_))
    refine bodyPost_ret (v := .tuple #[.agg #[.int .i64 0, .int .i64 0], .int .i64 E]) (by simp [results, Tryz.results31, go_sem]) rfl ?_
    refine ⟨rfl, ?_⟩
    (repeat (first | with_reducible exact bel_refl _ | with_reducible refine bel_alloc ?_ _ | with_reducible refine bel_bw _ ?_ | with_reducible refine bel_drew ?_ | with_reducible refine bel_drewN _ ?_ | ((with_reducible refine bel_set ?_ ?_ _); rotate_left; focus (first | (simp; done) | omega | (simp; omega))) | refine bel_step ?_ (by with_reducible assumption)))

end Go.Proofs.YtbjdgaeikihjbaaGreat
