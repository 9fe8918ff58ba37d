/-
  The reference's CheckHold, CheckTank.
  Conditions: each theorem's own premises.
-/
import Derived.Test.YtbjdgaeikihjbaaGreatRfc
import Derived.Test.YtbjdgaeikihjbaaGreatTank
import Derived.Test.YtbjdgaeikihjbaaGreatNorm
namespace Go.Proofs.YtbjdgaeikihjbaaGreat
set_option linter.unusedSimpArgs false
set_option linter.unusedVariables false
open Go.RowKit
set_option maxRecDepth 100000
set_option maxHeartbeats 4000000
attribute [local go_sem] Instr.field asAgg Soft.upon Soft.BW.cell_if Soft.BW.frozen_if Soft.cell_alloc_if Soft.frozen_alloc_if

theorem R2_CheckHold (h : Ho) (w : World) (hh : h.At w) :
    Calls Tryz.prog 20 #[.agg #[.int .i64 (h).id, .int .i64 ((h).along).lo, .int .i64 ((h).along).hi, .slice ((h).vol).p ((h).vol).n ((h).vol).c, .slice ((h).mom).p ((h).mom).n ((h).mom).c, .slice ((h).hei).p ((h).hei).n ((h).hei).c, .int .i64 ((h).tri).lo, .int .i64 ((h).tri).hi, .int .i64 ((h).unt).lo, .int .i64 ((h).unt).hi, .int .i64 ((h).v0).lo, .int .i64 ((h).v0).hi, .int .i64 ((h).h0).lo, .int .i64 ((h).h0).hi]] w fun e w' => e = .returned (.int .i64 (holdErr h)) ∧ Below w.heap.size w w' := by
  obtain ⟨ha, hb, hc⟩ := hh
  by_cases c0 : 1 ≤ h.id ∧ h.id ≤ 9
  · have K0 := Lib.hid (decide_eq_true c0).symm
    by_cases c1 : isPart h.along (-1000000) 1000000
    · have K1 := Lib.hid (decide_eq_true c1).symm
      by_cases c2 : isPart h.tri 0 1000000000
      · have K2 := Lib.hid (decide_eq_true c2).symm
        by_cases c3 : isPart h.unt 0 1000000000
        · have K3 := Lib.hid (decide_eq_true c3).symm
          by_cases c4 : isPart h.v0 0 1000000000
          · have K4 := Lib.hid (decide_eq_true c4).symm
            by_cases c5 : isPart h.h0 0 1000000000
            · have K5 := Lib.hid (decide_eq_true c5).symm
              by_cases c6 : Tab2 h.vol.ps
              · have K6 := Lib.hid (decide_eq_true c6).symm
                have n0 : 1 ≤ h.vol.n := by rw [← ha.1]; exact c6.ok.pos
                have T0 := Lib.hid c6
                by_cases c7 : Tab2 h.mom.ps
                · have K7 := Lib.hid (decide_eq_true c7).symm
                  have n1 : 1 ≤ h.mom.n := by rw [← hb.1]; exact c7.ok.pos
                  by_cases c8 : Tab2 h.hei.ps
                  · have K8 := Lib.hid (decide_eq_true c8).symm
                    have n2 : 1 ≤ h.hei.n := by rw [← hc.1]; exact c8.ok.pos
                    have T2 := Lib.hid c8
                    by_cases c9 : sameEnds h.mom.ps h.vol.ps
                    · have K9 := Lib.hid (decide_eq_true c9).symm
                      by_cases c10 : sameEnds h.hei.ps h.vol.ps
                      · have K10 := Lib.hid (decide_eq_true c10).symm
                        by_cases c11 : mono h.vol.ps (-1)
                        · have K11 := Lib.hid (decide_eq_true c11).symm
                          by_cases c12 : mono h.hei.ps (-1)
                          · have K12 := Lib.hid (decide_eq_true c12).symm
                            have HV := Lib.hid (show holdErr h = 0 from if_pos ⟨c0, c1, ⟨c6, ⟨c7, c9⟩, ⟨c8, c10⟩⟩, c11, c12, c2, c3, c4, c5⟩)
                            clear c0 c1 c2 c3 c4 c5 c6 c7 c8 c9 c10 c11 c12
                            go_enter Tryz.func20, Tryz.ntmps20
                            go_wp2_with (first | (go_at_call 59; (with_reducible refine (R2_between _ _ _ _ true K0.out).mono ?_); rintro e w_ ⟨rfl, hw_⟩; subst w_) | (go_at_call 60; (with_reducible refine (R2_place h.along _ true K1.out).mono ?_); rintro e w_ ⟨rfl, hb_⟩; obtain ⟨y1, rfl⟩ := Soft.BW.mk hb_; clear hb_) | (go_at_call 61; (with_reducible refine (R2_amount h.tri _ true K2.out).mono ?_); rintro e w_ ⟨rfl, hb_⟩; obtain ⟨y2, rfl⟩ := Soft.BW.mk hb_; clear hb_) | (go_at_call 61; (with_reducible refine (R2_amount h.unt _ true K3.out).mono ?_); rintro e w_ ⟨rfl, hb_⟩; obtain ⟨y3, rfl⟩ := Soft.BW.mk hb_; clear hb_) | (go_at_call 61; (with_reducible refine (R2_amount h.v0 _ true K4.out).mono ?_); rintro e w_ ⟨rfl, hb_⟩; obtain ⟨y4, rfl⟩ := Soft.BW.mk hb_; clear hb_) | (go_at_call 61; (with_reducible refine (R2_amount h.h0 _ true K5.out).mono ?_); rintro e w_ ⟨rfl, hb_⟩; obtain ⟨y5, rfl⟩ := Soft.BW.mk hb_; clear hb_) | (go_at_call 62; (with_reducible refine (R2_table h.vol _ (by repeat (first | exact ha | refine Tb.At.alloc ?_ _ | refine Tb.At.bw ?_ _)) true K6.out).mono ?_); rintro e w_ ⟨rfl, hb_⟩; obtain ⟨y6, rfl⟩ := Soft.BW.mk hb_; clear hb_) | (go_at_call 62; (with_reducible refine (R2_table h.mom _ (by repeat (first | exact hb | refine Tb.At.alloc ?_ _ | refine Tb.At.bw ?_ _)) true K7.out).mono ?_); rintro e w_ ⟨rfl, hb_⟩; obtain ⟨y7, rfl⟩ := Soft.BW.mk hb_; clear hb_) | (go_at_call 62; (with_reducible refine (R2_table h.hei _ (by repeat (first | exact hc | refine Tb.At.alloc ?_ _ | refine Tb.At.bw ?_ _)) true K8.out).mono ?_); rintro e w_ ⟨rfl, hb_⟩; obtain ⟨y8, rfl⟩ := Soft.BW.mk hb_; clear hb_) | (go_at_call 63; (with_reducible refine (R2_along h.vol h.mom _ (by repeat (first | exact ha | refine Tb.At.alloc ?_ _ | refine Tb.At.bw ?_ _)) (by repeat (first | exact hb | refine Tb.At.alloc ?_ _ | refine Tb.At.bw ?_ _)) n0 n1 true K9.out).mono ?_); rintro e w_ ⟨rfl, hb_⟩; obtain ⟨y9, rfl⟩ := Soft.BW.mk hb_; clear hb_) | (go_at_call 63; (with_reducible refine (R2_along h.vol h.hei _ (by repeat (first | exact ha | refine Tb.At.alloc ?_ _ | refine Tb.At.bw ?_ _)) (by repeat (first | exact hc | refine Tb.At.alloc ?_ _ | refine Tb.At.bw ?_ _)) n0 n2 true K10.out).mono ?_); rintro e w_ ⟨rfl, hb_⟩; obtain ⟨y10, rfl⟩ := Soft.BW.mk hb_; clear hb_) | (go_at_call 64; (with_reducible refine (R2_falls h.vol _ (by repeat (first | exact ha | refine Tb.At.alloc ?_ _ | refine Tb.At.bw ?_ _)) T0.out true K11.out).mono ?_); rintro e w_ ⟨rfl, hb_⟩; obtain ⟨y11, rfl⟩ := Soft.BW.mk hb_; clear hb_) | (go_at_call 64; (with_reducible refine (R2_falls h.hei _ (by repeat (first | exact hc | refine Tb.At.alloc ?_ _ | refine Tb.At.bw ?_ _)) T2.out true K12.out).mono ?_); rintro e w_ ⟨rfl, hb_⟩; obtain ⟨y12, rfl⟩ := Soft.BW.mk hb_; clear hb_))
                            go_ret
                            refine ⟨ret_int HV.out.symm, ?_⟩
                            (repeat (first | with_reducible exact bel_refl _ | with_reducible refine bel_alloc ?_ _ | with_reducible refine bel_bw _ ?_ | with_reducible refine bel_drew ?_ | with_reducible refine bel_drewN _ ?_ | ((with_reducible refine bel_set ?_ ?_ _); rotate_left; focus (first | (simp; done) | omega | (simp; omega))) | refine bel_step ?_ (by with_reducible assumption)))
                          · have K12 := Lib.hid (decide_eq_false c12).symm
                            have HV := Lib.hid (show holdErr h = 20 from if_neg (fun g => c12 g.mh))
                            clear c0 c1 c2 c3 c4 c5 c6 c7 c8 c9 c10 c11 c12
                            go_enter Tryz.func20, Tryz.ntmps20
                            go_wp2_with (first | (go_at_call 59; (with_reducible refine (R2_between _ _ _ _ true K0.out).mono ?_); rintro e w_ ⟨rfl, hw_⟩; subst w_) | (go_at_call 60; (with_reducible refine (R2_place h.along _ true K1.out).mono ?_); rintro e w_ ⟨rfl, hb_⟩; obtain ⟨y1, rfl⟩ := Soft.BW.mk hb_; clear hb_) | (go_at_call 61; (with_reducible refine (R2_amount h.tri _ true K2.out).mono ?_); rintro e w_ ⟨rfl, hb_⟩; obtain ⟨y2, rfl⟩ := Soft.BW.mk hb_; clear hb_) | (go_at_call 61; (with_reducible refine (R2_amount h.unt _ true K3.out).mono ?_); rintro e w_ ⟨rfl, hb_⟩; obtain ⟨y3, rfl⟩ := Soft.BW.mk hb_; clear hb_) | (go_at_call 61; (with_reducible refine (R2_amount h.v0 _ true K4.out).mono ?_); rintro e w_ ⟨rfl, hb_⟩; obtain ⟨y4, rfl⟩ := Soft.BW.mk hb_; clear hb_) | (go_at_call 61; (with_reducible refine (R2_amount h.h0 _ true K5.out).mono ?_); rintro e w_ ⟨rfl, hb_⟩; obtain ⟨y5, rfl⟩ := Soft.BW.mk hb_; clear hb_) | (go_at_call 62; (with_reducible refine (R2_table h.vol _ (by repeat (first | exact ha | refine Tb.At.alloc ?_ _ | refine Tb.At.bw ?_ _)) true K6.out).mono ?_); rintro e w_ ⟨rfl, hb_⟩; obtain ⟨y6, rfl⟩ := Soft.BW.mk hb_; clear hb_) | (go_at_call 62; (with_reducible refine (R2_table h.mom _ (by repeat (first | exact hb | refine Tb.At.alloc ?_ _ | refine Tb.At.bw ?_ _)) true K7.out).mono ?_); rintro e w_ ⟨rfl, hb_⟩; obtain ⟨y7, rfl⟩ := Soft.BW.mk hb_; clear hb_) | (go_at_call 62; (with_reducible refine (R2_table h.hei _ (by repeat (first | exact hc | refine Tb.At.alloc ?_ _ | refine Tb.At.bw ?_ _)) true K8.out).mono ?_); rintro e w_ ⟨rfl, hb_⟩; obtain ⟨y8, rfl⟩ := Soft.BW.mk hb_; clear hb_) | (go_at_call 63; (with_reducible refine (R2_along h.vol h.mom _ (by repeat (first | exact ha | refine Tb.At.alloc ?_ _ | refine Tb.At.bw ?_ _)) (by repeat (first | exact hb | refine Tb.At.alloc ?_ _ | refine Tb.At.bw ?_ _)) n0 n1 true K9.out).mono ?_); rintro e w_ ⟨rfl, hb_⟩; obtain ⟨y9, rfl⟩ := Soft.BW.mk hb_; clear hb_) | (go_at_call 63; (with_reducible refine (R2_along h.vol h.hei _ (by repeat (first | exact ha | refine Tb.At.alloc ?_ _ | refine Tb.At.bw ?_ _)) (by repeat (first | exact hc | refine Tb.At.alloc ?_ _ | refine Tb.At.bw ?_ _)) n0 n2 true K10.out).mono ?_); rintro e w_ ⟨rfl, hb_⟩; obtain ⟨y10, rfl⟩ := Soft.BW.mk hb_; clear hb_) | (go_at_call 64; (with_reducible refine (R2_falls h.vol _ (by repeat (first | exact ha | refine Tb.At.alloc ?_ _ | refine Tb.At.bw ?_ _)) T0.out true K11.out).mono ?_); rintro e w_ ⟨rfl, hb_⟩; obtain ⟨y11, rfl⟩ := Soft.BW.mk hb_; clear hb_) | (go_at_call 64; (with_reducible refine (R2_falls h.hei _ (by repeat (first | exact hc | refine Tb.At.alloc ?_ _ | refine Tb.At.bw ?_ _)) T2.out false K12.out).mono ?_); rintro e w_ ⟨rfl, hb_⟩; obtain ⟨y12, rfl⟩ := Soft.BW.mk hb_; clear hb_))
                            go_ret
                            refine ⟨ret_int HV.out.symm, ?_⟩
                            (repeat (first | with_reducible exact bel_refl _ | with_reducible refine bel_alloc ?_ _ | with_reducible refine bel_bw _ ?_ | with_reducible refine bel_drew ?_ | with_reducible refine bel_drewN _ ?_ | ((with_reducible refine bel_set ?_ ?_ _); rotate_left; focus (first | (simp; done) | omega | (simp; omega))) | refine bel_step ?_ (by with_reducible assumption)))
                        · have K11 := Lib.hid (decide_eq_false c11).symm
                          have HV := Lib.hid (show holdErr h = 20 from if_neg (fun g => c11 g.mv))
                          clear c0 c1 c2 c3 c4 c5 c6 c7 c8 c9 c10 c11
                          go_enter Tryz.func20, Tryz.ntmps20
                          go_wp2_with (first | (go_at_call 59; (with_reducible refine (R2_between _ _ _ _ true K0.out).mono ?_); rintro e w_ ⟨rfl, hw_⟩; subst w_) | (go_at_call 60; (with_reducible refine (R2_place h.along _ true K1.out).mono ?_); rintro e w_ ⟨rfl, hb_⟩; obtain ⟨y1, rfl⟩ := Soft.BW.mk hb_; clear hb_) | (go_at_call 61; (with_reducible refine (R2_amount h.tri _ true K2.out).mono ?_); rintro e w_ ⟨rfl, hb_⟩; obtain ⟨y2, rfl⟩ := Soft.BW.mk hb_; clear hb_) | (go_at_call 61; (with_reducible refine (R2_amount h.unt _ true K3.out).mono ?_); rintro e w_ ⟨rfl, hb_⟩; obtain ⟨y3, rfl⟩ := Soft.BW.mk hb_; clear hb_) | (go_at_call 61; (with_reducible refine (R2_amount h.v0 _ true K4.out).mono ?_); rintro e w_ ⟨rfl, hb_⟩; obtain ⟨y4, rfl⟩ := Soft.BW.mk hb_; clear hb_) | (go_at_call 61; (with_reducible refine (R2_amount h.h0 _ true K5.out).mono ?_); rintro e w_ ⟨rfl, hb_⟩; obtain ⟨y5, rfl⟩ := Soft.BW.mk hb_; clear hb_) | (go_at_call 62; (with_reducible refine (R2_table h.vol _ (by repeat (first | exact ha | refine Tb.At.alloc ?_ _ | refine Tb.At.bw ?_ _)) true K6.out).mono ?_); rintro e w_ ⟨rfl, hb_⟩; obtain ⟨y6, rfl⟩ := Soft.BW.mk hb_; clear hb_) | (go_at_call 62; (with_reducible refine (R2_table h.mom _ (by repeat (first | exact hb | refine Tb.At.alloc ?_ _ | refine Tb.At.bw ?_ _)) true K7.out).mono ?_); rintro e w_ ⟨rfl, hb_⟩; obtain ⟨y7, rfl⟩ := Soft.BW.mk hb_; clear hb_) | (go_at_call 62; (with_reducible refine (R2_table h.hei _ (by repeat (first | exact hc | refine Tb.At.alloc ?_ _ | refine Tb.At.bw ?_ _)) true K8.out).mono ?_); rintro e w_ ⟨rfl, hb_⟩; obtain ⟨y8, rfl⟩ := Soft.BW.mk hb_; clear hb_) | (go_at_call 63; (with_reducible refine (R2_along h.vol h.mom _ (by repeat (first | exact ha | refine Tb.At.alloc ?_ _ | refine Tb.At.bw ?_ _)) (by repeat (first | exact hb | refine Tb.At.alloc ?_ _ | refine Tb.At.bw ?_ _)) n0 n1 true K9.out).mono ?_); rintro e w_ ⟨rfl, hb_⟩; obtain ⟨y9, rfl⟩ := Soft.BW.mk hb_; clear hb_) | (go_at_call 63; (with_reducible refine (R2_along h.vol h.hei _ (by repeat (first | exact ha | refine Tb.At.alloc ?_ _ | refine Tb.At.bw ?_ _)) (by repeat (first | exact hc | refine Tb.At.alloc ?_ _ | refine Tb.At.bw ?_ _)) n0 n2 true K10.out).mono ?_); rintro e w_ ⟨rfl, hb_⟩; obtain ⟨y10, rfl⟩ := Soft.BW.mk hb_; clear hb_) | (go_at_call 64; (with_reducible refine (R2_falls h.vol _ (by repeat (first | exact ha | refine Tb.At.alloc ?_ _ | refine Tb.At.bw ?_ _)) T0.out false K11.out).mono ?_); rintro e w_ ⟨rfl, hb_⟩; obtain ⟨y11, rfl⟩ := Soft.BW.mk hb_; clear hb_))
                          go_ret
                          refine ⟨ret_int HV.out.symm, ?_⟩
                          (repeat (first | with_reducible exact bel_refl _ | with_reducible refine bel_alloc ?_ _ | with_reducible refine bel_bw _ ?_ | with_reducible refine bel_drew ?_ | with_reducible refine bel_drewN _ ?_ | ((with_reducible refine bel_set ?_ ?_ _); rotate_left; focus (first | (simp; done) | omega | (simp; omega))) | refine bel_step ?_ (by with_reducible assumption)))
                      · have K10 := Lib.hid (decide_eq_false c10).symm
                        have HV := Lib.hid (show holdErr h = 20 from if_neg (fun g => c10 g.tabs.2.2.2))
                        clear c0 c1 c2 c3 c4 c5 c6 c7 c8 c9 c10
                        go_enter Tryz.func20, Tryz.ntmps20
                        go_wp2_with (first | (go_at_call 59; (with_reducible refine (R2_between _ _ _ _ true K0.out).mono ?_); rintro e w_ ⟨rfl, hw_⟩; subst w_) | (go_at_call 60; (with_reducible refine (R2_place h.along _ true K1.out).mono ?_); rintro e w_ ⟨rfl, hb_⟩; obtain ⟨y1, rfl⟩ := Soft.BW.mk hb_; clear hb_) | (go_at_call 61; (with_reducible refine (R2_amount h.tri _ true K2.out).mono ?_); rintro e w_ ⟨rfl, hb_⟩; obtain ⟨y2, rfl⟩ := Soft.BW.mk hb_; clear hb_) | (go_at_call 61; (with_reducible refine (R2_amount h.unt _ true K3.out).mono ?_); rintro e w_ ⟨rfl, hb_⟩; obtain ⟨y3, rfl⟩ := Soft.BW.mk hb_; clear hb_) | (go_at_call 61; (with_reducible refine (R2_amount h.v0 _ true K4.out).mono ?_); rintro e w_ ⟨rfl, hb_⟩; obtain ⟨y4, rfl⟩ := Soft.BW.mk hb_; clear hb_) | (go_at_call 61; (with_reducible refine (R2_amount h.h0 _ true K5.out).mono ?_); rintro e w_ ⟨rfl, hb_⟩; obtain ⟨y5, rfl⟩ := Soft.BW.mk hb_; clear hb_) | (go_at_call 62; (with_reducible refine (R2_table h.vol _ (by repeat (first | exact ha | refine Tb.At.alloc ?_ _ | refine Tb.At.bw ?_ _)) true K6.out).mono ?_); rintro e w_ ⟨rfl, hb_⟩; obtain ⟨y6, rfl⟩ := Soft.BW.mk hb_; clear hb_) | (go_at_call 62; (with_reducible refine (R2_table h.mom _ (by repeat (first | exact hb | refine Tb.At.alloc ?_ _ | refine Tb.At.bw ?_ _)) true K7.out).mono ?_); rintro e w_ ⟨rfl, hb_⟩; obtain ⟨y7, rfl⟩ := Soft.BW.mk hb_; clear hb_) | (go_at_call 62; (with_reducible refine (R2_table h.hei _ (by repeat (first | exact hc | refine Tb.At.alloc ?_ _ | refine Tb.At.bw ?_ _)) true K8.out).mono ?_); rintro e w_ ⟨rfl, hb_⟩; obtain ⟨y8, rfl⟩ := Soft.BW.mk hb_; clear hb_) | (go_at_call 63; (with_reducible refine (R2_along h.vol h.mom _ (by repeat (first | exact ha | refine Tb.At.alloc ?_ _ | refine Tb.At.bw ?_ _)) (by repeat (first | exact hb | refine Tb.At.alloc ?_ _ | refine Tb.At.bw ?_ _)) n0 n1 true K9.out).mono ?_); rintro e w_ ⟨rfl, hb_⟩; obtain ⟨y9, rfl⟩ := Soft.BW.mk hb_; clear hb_) | (go_at_call 63; (with_reducible refine (R2_along h.vol h.hei _ (by repeat (first | exact ha | refine Tb.At.alloc ?_ _ | refine Tb.At.bw ?_ _)) (by repeat (first | exact hc | refine Tb.At.alloc ?_ _ | refine Tb.At.bw ?_ _)) n0 n2 false K10.out).mono ?_); rintro e w_ ⟨rfl, hb_⟩; obtain ⟨y10, rfl⟩ := Soft.BW.mk hb_; clear hb_))
                        go_ret
                        refine ⟨ret_int HV.out.symm, ?_⟩
                        (repeat (first | with_reducible exact bel_refl _ | with_reducible refine bel_alloc ?_ _ | with_reducible refine bel_bw _ ?_ | with_reducible refine bel_drew ?_ | with_reducible refine bel_drewN _ ?_ | ((with_reducible refine bel_set ?_ ?_ _); rotate_left; focus (first | (simp; done) | omega | (simp; omega))) | refine bel_step ?_ (by with_reducible assumption)))
                    · have K9 := Lib.hid (decide_eq_false c9).symm
                      have HV := Lib.hid (show holdErr h = 20 from if_neg (fun g => c9 g.tabs.2.1.2))
                      clear c0 c1 c2 c3 c4 c5 c6 c7 c8 c9
                      go_enter Tryz.func20, Tryz.ntmps20
                      go_wp2_with (first | (go_at_call 59; (with_reducible refine (R2_between _ _ _ _ true K0.out).mono ?_); rintro e w_ ⟨rfl, hw_⟩; subst w_) | (go_at_call 60; (with_reducible refine (R2_place h.along _ true K1.out).mono ?_); rintro e w_ ⟨rfl, hb_⟩; obtain ⟨y1, rfl⟩ := Soft.BW.mk hb_; clear hb_) | (go_at_call 61; (with_reducible refine (R2_amount h.tri _ true K2.out).mono ?_); rintro e w_ ⟨rfl, hb_⟩; obtain ⟨y2, rfl⟩ := Soft.BW.mk hb_; clear hb_) | (go_at_call 61; (with_reducible refine (R2_amount h.unt _ true K3.out).mono ?_); rintro e w_ ⟨rfl, hb_⟩; obtain ⟨y3, rfl⟩ := Soft.BW.mk hb_; clear hb_) | (go_at_call 61; (with_reducible refine (R2_amount h.v0 _ true K4.out).mono ?_); rintro e w_ ⟨rfl, hb_⟩; obtain ⟨y4, rfl⟩ := Soft.BW.mk hb_; clear hb_) | (go_at_call 61; (with_reducible refine (R2_amount h.h0 _ true K5.out).mono ?_); rintro e w_ ⟨rfl, hb_⟩; obtain ⟨y5, rfl⟩ := Soft.BW.mk hb_; clear hb_) | (go_at_call 62; (with_reducible refine (R2_table h.vol _ (by repeat (first | exact ha | refine Tb.At.alloc ?_ _ | refine Tb.At.bw ?_ _)) true K6.out).mono ?_); rintro e w_ ⟨rfl, hb_⟩; obtain ⟨y6, rfl⟩ := Soft.BW.mk hb_; clear hb_) | (go_at_call 62; (with_reducible refine (R2_table h.mom _ (by repeat (first | exact hb | refine Tb.At.alloc ?_ _ | refine Tb.At.bw ?_ _)) true K7.out).mono ?_); rintro e w_ ⟨rfl, hb_⟩; obtain ⟨y7, rfl⟩ := Soft.BW.mk hb_; clear hb_) | (go_at_call 62; (with_reducible refine (R2_table h.hei _ (by repeat (first | exact hc | refine Tb.At.alloc ?_ _ | refine Tb.At.bw ?_ _)) true K8.out).mono ?_); rintro e w_ ⟨rfl, hb_⟩; obtain ⟨y8, rfl⟩ := Soft.BW.mk hb_; clear hb_) | (go_at_call 63; (with_reducible refine (R2_along h.vol h.mom _ (by repeat (first | exact ha | refine Tb.At.alloc ?_ _ | refine Tb.At.bw ?_ _)) (by repeat (first | exact hb | refine Tb.At.alloc ?_ _ | refine Tb.At.bw ?_ _)) n0 n1 false K9.out).mono ?_); rintro e w_ ⟨rfl, hb_⟩; obtain ⟨y9, rfl⟩ := Soft.BW.mk hb_; clear hb_))
                      go_ret
                      refine ⟨ret_int HV.out.symm, ?_⟩
                      (repeat (first | with_reducible exact bel_refl _ | with_reducible refine bel_alloc ?_ _ | with_reducible refine bel_bw _ ?_ | with_reducible refine bel_drew ?_ | with_reducible refine bel_drewN _ ?_ | ((with_reducible refine bel_set ?_ ?_ _); rotate_left; focus (first | (simp; done) | omega | (simp; omega))) | refine bel_step ?_ (by with_reducible assumption)))
                  · have K8 := Lib.hid (decide_eq_false c8).symm
                    have HV := Lib.hid (show holdErr h = 20 from if_neg (fun g => c8 g.tabs.2.2.1))
                    clear c0 c1 c2 c3 c4 c5 c6 c7 c8
                    go_enter Tryz.func20, Tryz.ntmps20
                    go_wp2_with (first | (go_at_call 59; (with_reducible refine (R2_between _ _ _ _ true K0.out).mono ?_); rintro e w_ ⟨rfl, hw_⟩; subst w_) | (go_at_call 60; (with_reducible refine (R2_place h.along _ true K1.out).mono ?_); rintro e w_ ⟨rfl, hb_⟩; obtain ⟨y1, rfl⟩ := Soft.BW.mk hb_; clear hb_) | (go_at_call 61; (with_reducible refine (R2_amount h.tri _ true K2.out).mono ?_); rintro e w_ ⟨rfl, hb_⟩; obtain ⟨y2, rfl⟩ := Soft.BW.mk hb_; clear hb_) | (go_at_call 61; (with_reducible refine (R2_amount h.unt _ true K3.out).mono ?_); rintro e w_ ⟨rfl, hb_⟩; obtain ⟨y3, rfl⟩ := Soft.BW.mk hb_; clear hb_) | (go_at_call 61; (with_reducible refine (R2_amount h.v0 _ true K4.out).mono ?_); rintro e w_ ⟨rfl, hb_⟩; obtain ⟨y4, rfl⟩ := Soft.BW.mk hb_; clear hb_) | (go_at_call 61; (with_reducible refine (R2_amount h.h0 _ true K5.out).mono ?_); rintro e w_ ⟨rfl, hb_⟩; obtain ⟨y5, rfl⟩ := Soft.BW.mk hb_; clear hb_) | (go_at_call 62; (with_reducible refine (R2_table h.vol _ (by repeat (first | exact ha | refine Tb.At.alloc ?_ _ | refine Tb.At.bw ?_ _)) true K6.out).mono ?_); rintro e w_ ⟨rfl, hb_⟩; obtain ⟨y6, rfl⟩ := Soft.BW.mk hb_; clear hb_) | (go_at_call 62; (with_reducible refine (R2_table h.mom _ (by repeat (first | exact hb | refine Tb.At.alloc ?_ _ | refine Tb.At.bw ?_ _)) true K7.out).mono ?_); rintro e w_ ⟨rfl, hb_⟩; obtain ⟨y7, rfl⟩ := Soft.BW.mk hb_; clear hb_) | (go_at_call 62; (with_reducible refine (R2_table h.hei _ (by repeat (first | exact hc | refine Tb.At.alloc ?_ _ | refine Tb.At.bw ?_ _)) false K8.out).mono ?_); rintro e w_ ⟨rfl, hb_⟩; obtain ⟨y8, rfl⟩ := Soft.BW.mk hb_; clear hb_))
                    go_ret
                    refine ⟨ret_int HV.out.symm, ?_⟩
                    (repeat (first | with_reducible exact bel_refl _ | with_reducible refine bel_alloc ?_ _ | with_reducible refine bel_bw _ ?_ | with_reducible refine bel_drew ?_ | with_reducible refine bel_drewN _ ?_ | ((with_reducible refine bel_set ?_ ?_ _); rotate_left; focus (first | (simp; done) | omega | (simp; omega))) | refine bel_step ?_ (by with_reducible assumption)))
                · have K7 := Lib.hid (decide_eq_false c7).symm
                  have HV := Lib.hid (show holdErr h = 20 from if_neg (fun g => c7 g.tabs.2.1.1))
                  clear c0 c1 c2 c3 c4 c5 c6 c7
                  go_enter Tryz.func20, Tryz.ntmps20
                  go_wp2_with (first | (go_at_call 59; (with_reducible refine (R2_between _ _ _ _ true K0.out).mono ?_); rintro e w_ ⟨rfl, hw_⟩; subst w_) | (go_at_call 60; (with_reducible refine (R2_place h.along _ true K1.out).mono ?_); rintro e w_ ⟨rfl, hb_⟩; obtain ⟨y1, rfl⟩ := Soft.BW.mk hb_; clear hb_) | (go_at_call 61; (with_reducible refine (R2_amount h.tri _ true K2.out).mono ?_); rintro e w_ ⟨rfl, hb_⟩; obtain ⟨y2, rfl⟩ := Soft.BW.mk hb_; clear hb_) | (go_at_call 61; (with_reducible refine (R2_amount h.unt _ true K3.out).mono ?_); rintro e w_ ⟨rfl, hb_⟩; obtain ⟨y3, rfl⟩ := Soft.BW.mk hb_; clear hb_) | (go_at_call 61; (with_reducible refine (R2_amount h.v0 _ true K4.out).mono ?_); rintro e w_ ⟨rfl, hb_⟩; obtain ⟨y4, rfl⟩ := Soft.BW.mk hb_; clear hb_) | (go_at_call 61; (with_reducible refine (R2_amount h.h0 _ true K5.out).mono ?_); rintro e w_ ⟨rfl, hb_⟩; obtain ⟨y5, rfl⟩ := Soft.BW.mk hb_; clear hb_) | (go_at_call 62; (with_reducible refine (R2_table h.vol _ (by repeat (first | exact ha | refine Tb.At.alloc ?_ _ | refine Tb.At.bw ?_ _)) true K6.out).mono ?_); rintro e w_ ⟨rfl, hb_⟩; obtain ⟨y6, rfl⟩ := Soft.BW.mk hb_; clear hb_) | (go_at_call 62; (with_reducible refine (R2_table h.mom _ (by repeat (first | exact hb | refine Tb.At.alloc ?_ _ | refine Tb.At.bw ?_ _)) false K7.out).mono ?_); rintro e w_ ⟨rfl, hb_⟩; obtain ⟨y7, rfl⟩ := Soft.BW.mk hb_; clear hb_))
                  go_ret
                  refine ⟨ret_int HV.out.symm, ?_⟩
                  (repeat (first | with_reducible exact bel_refl _ | with_reducible refine bel_alloc ?_ _ | with_reducible refine bel_bw _ ?_ | with_reducible refine bel_drew ?_ | with_reducible refine bel_drewN _ ?_ | ((with_reducible refine bel_set ?_ ?_ _); rotate_left; focus (first | (simp; done) | omega | (simp; omega))) | refine bel_step ?_ (by with_reducible assumption)))
              · have K6 := Lib.hid (decide_eq_false c6).symm
                have HV := Lib.hid (show holdErr h = 20 from if_neg (fun g => c6 g.tabs.1))
                clear c0 c1 c2 c3 c4 c5 c6
                go_enter Tryz.func20, Tryz.ntmps20
                go_wp2_with (first | (go_at_call 59; (with_reducible refine (R2_between _ _ _ _ true K0.out).mono ?_); rintro e w_ ⟨rfl, hw_⟩; subst w_) | (go_at_call 60; (with_reducible refine (R2_place h.along _ true K1.out).mono ?_); rintro e w_ ⟨rfl, hb_⟩; obtain ⟨y1, rfl⟩ := Soft.BW.mk hb_; clear hb_) | (go_at_call 61; (with_reducible refine (R2_amount h.tri _ true K2.out).mono ?_); rintro e w_ ⟨rfl, hb_⟩; obtain ⟨y2, rfl⟩ := Soft.BW.mk hb_; clear hb_) | (go_at_call 61; (with_reducible refine (R2_amount h.unt _ true K3.out).mono ?_); rintro e w_ ⟨rfl, hb_⟩; obtain ⟨y3, rfl⟩ := Soft.BW.mk hb_; clear hb_) | (go_at_call 61; (with_reducible refine (R2_amount h.v0 _ true K4.out).mono ?_); rintro e w_ ⟨rfl, hb_⟩; obtain ⟨y4, rfl⟩ := Soft.BW.mk hb_; clear hb_) | (go_at_call 61; (with_reducible refine (R2_amount h.h0 _ true K5.out).mono ?_); rintro e w_ ⟨rfl, hb_⟩; obtain ⟨y5, rfl⟩ := Soft.BW.mk hb_; clear hb_) | (go_at_call 62; (with_reducible refine (R2_table h.vol _ (by repeat (first | exact ha | refine Tb.At.alloc ?_ _ | refine Tb.At.bw ?_ _)) false K6.out).mono ?_); rintro e w_ ⟨rfl, hb_⟩; obtain ⟨y6, rfl⟩ := Soft.BW.mk hb_; clear hb_))
                go_ret
                refine ⟨ret_int HV.out.symm, ?_⟩
                (repeat (first | with_reducible exact bel_refl _ | with_reducible refine bel_alloc ?_ _ | with_reducible refine bel_bw _ ?_ | with_reducible refine bel_drew ?_ | with_reducible refine bel_drewN _ ?_ | ((with_reducible refine bel_set ?_ ?_ _); rotate_left; focus (first | (simp; done) | omega | (simp; omega))) | refine bel_step ?_ (by with_reducible assumption)))
            · have K5 := Lib.hid (decide_eq_false c5).symm
              have HV := Lib.hid (show holdErr h = 20 from if_neg (fun g => c5 g.h0))
              clear c0 c1 c2 c3 c4 c5
              go_enter Tryz.func20, Tryz.ntmps20
              go_wp2_with (first | (go_at_call 59; (with_reducible refine (R2_between _ _ _ _ true K0.out).mono ?_); rintro e w_ ⟨rfl, hw_⟩; subst w_) | (go_at_call 60; (with_reducible refine (R2_place h.along _ true K1.out).mono ?_); rintro e w_ ⟨rfl, hb_⟩; obtain ⟨y1, rfl⟩ := Soft.BW.mk hb_; clear hb_) | (go_at_call 61; (with_reducible refine (R2_amount h.tri _ true K2.out).mono ?_); rintro e w_ ⟨rfl, hb_⟩; obtain ⟨y2, rfl⟩ := Soft.BW.mk hb_; clear hb_) | (go_at_call 61; (with_reducible refine (R2_amount h.unt _ true K3.out).mono ?_); rintro e w_ ⟨rfl, hb_⟩; obtain ⟨y3, rfl⟩ := Soft.BW.mk hb_; clear hb_) | (go_at_call 61; (with_reducible refine (R2_amount h.v0 _ true K4.out).mono ?_); rintro e w_ ⟨rfl, hb_⟩; obtain ⟨y4, rfl⟩ := Soft.BW.mk hb_; clear hb_) | (go_at_call 61; (with_reducible refine (R2_amount h.h0 _ false K5.out).mono ?_); rintro e w_ ⟨rfl, hb_⟩; obtain ⟨y5, rfl⟩ := Soft.BW.mk hb_; clear hb_))
              go_ret
              refine ⟨ret_int HV.out.symm, ?_⟩
              (repeat (first | with_reducible exact bel_refl _ | with_reducible refine bel_alloc ?_ _ | with_reducible refine bel_bw _ ?_ | with_reducible refine bel_drew ?_ | with_reducible refine bel_drewN _ ?_ | ((with_reducible refine bel_set ?_ ?_ _); rotate_left; focus (first | (simp; done) | omega | (simp; omega))) | refine bel_step ?_ (by with_reducible assumption)))
          · have K4 := Lib.hid (decide_eq_false c4).symm
            have HV := Lib.hid (show holdErr h = 20 from if_neg (fun g => c4 g.v0))
            clear c0 c1 c2 c3 c4
            go_enter Tryz.func20, Tryz.ntmps20
            go_wp2_with (first | (go_at_call 59; (with_reducible refine (R2_between _ _ _ _ true K0.out).mono ?_); rintro e w_ ⟨rfl, hw_⟩; subst w_) | (go_at_call 60; (with_reducible refine (R2_place h.along _ true K1.out).mono ?_); rintro e w_ ⟨rfl, hb_⟩; obtain ⟨y1, rfl⟩ := Soft.BW.mk hb_; clear hb_) | (go_at_call 61; (with_reducible refine (R2_amount h.tri _ true K2.out).mono ?_); rintro e w_ ⟨rfl, hb_⟩; obtain ⟨y2, rfl⟩ := Soft.BW.mk hb_; clear hb_) | (go_at_call 61; (with_reducible refine (R2_amount h.unt _ true K3.out).mono ?_); rintro e w_ ⟨rfl, hb_⟩; obtain ⟨y3, rfl⟩ := Soft.BW.mk hb_; clear hb_) | (go_at_call 61; (with_reducible refine (R2_amount h.v0 _ false K4.out).mono ?_); rintro e w_ ⟨rfl, hb_⟩; obtain ⟨y4, rfl⟩ := Soft.BW.mk hb_; clear hb_))
            go_ret
            refine ⟨ret_int HV.out.symm, ?_⟩
            (repeat (first | with_reducible exact bel_refl _ | with_reducible refine bel_alloc ?_ _ | with_reducible refine bel_bw _ ?_ | with_reducible refine bel_drew ?_ | with_reducible refine bel_drewN _ ?_ | ((with_reducible refine bel_set ?_ ?_ _); rotate_left; focus (first | (simp; done) | omega | (simp; omega))) | refine bel_step ?_ (by with_reducible assumption)))
        · have K3 := Lib.hid (decide_eq_false c3).symm
          have HV := Lib.hid (show holdErr h = 20 from if_neg (fun g => c3 g.unt))
          clear c0 c1 c2 c3
          go_enter Tryz.func20, Tryz.ntmps20
          go_wp2_with (first | (go_at_call 59; (with_reducible refine (R2_between _ _ _ _ true K0.out).mono ?_); rintro e w_ ⟨rfl, hw_⟩; subst w_) | (go_at_call 60; (with_reducible refine (R2_place h.along _ true K1.out).mono ?_); rintro e w_ ⟨rfl, hb_⟩; obtain ⟨y1, rfl⟩ := Soft.BW.mk hb_; clear hb_) | (go_at_call 61; (with_reducible refine (R2_amount h.tri _ true K2.out).mono ?_); rintro e w_ ⟨rfl, hb_⟩; obtain ⟨y2, rfl⟩ := Soft.BW.mk hb_; clear hb_) | (go_at_call 61; (with_reducible refine (R2_amount h.unt _ false K3.out).mono ?_); rintro e w_ ⟨rfl, hb_⟩; obtain ⟨y3, rfl⟩ := Soft.BW.mk hb_; clear hb_))
          go_ret
          refine ⟨ret_int HV.out.symm, ?_⟩
          (repeat (first | with_reducible exact bel_refl _ | with_reducible refine bel_alloc ?_ _ | with_reducible refine bel_bw _ ?_ | with_reducible refine bel_drew ?_ | with_reducible refine bel_drewN _ ?_ | ((with_reducible refine bel_set ?_ ?_ _); rotate_left; focus (first | (simp; done) | omega | (simp; omega))) | refine bel_step ?_ (by with_reducible assumption)))
      · have K2 := Lib.hid (decide_eq_false c2).symm
        have HV := Lib.hid (show holdErr h = 20 from if_neg (fun g => c2 g.tri))
        clear c0 c1 c2
        go_enter Tryz.func20, Tryz.ntmps20
        go_wp2_with (first | (go_at_call 59; (with_reducible refine (R2_between _ _ _ _ true K0.out).mono ?_); rintro e w_ ⟨rfl, hw_⟩; subst w_) | (go_at_call 60; (with_reducible refine (R2_place h.along _ true K1.out).mono ?_); rintro e w_ ⟨rfl, hb_⟩; obtain ⟨y1, rfl⟩ := Soft.BW.mk hb_; clear hb_) | (go_at_call 61; (with_reducible refine (R2_amount h.tri _ false K2.out).mono ?_); rintro e w_ ⟨rfl, hb_⟩; obtain ⟨y2, rfl⟩ := Soft.BW.mk hb_; clear hb_))
        go_ret
        refine ⟨ret_int HV.out.symm, ?_⟩
        (repeat (first | with_reducible exact bel_refl _ | with_reducible refine bel_alloc ?_ _ | with_reducible refine bel_bw _ ?_ | with_reducible refine bel_drew ?_ | with_reducible refine bel_drewN _ ?_ | ((with_reducible refine bel_set ?_ ?_ _); rotate_left; focus (first | (simp; done) | omega | (simp; omega))) | refine bel_step ?_ (by with_reducible assumption)))
    · have K1 := Lib.hid (decide_eq_false c1).symm
      have HV := Lib.hid (show holdErr h = 20 from if_neg (fun g => c1 g.along))
      clear c0 c1
      go_enter Tryz.func20, Tryz.ntmps20
      go_wp2_with (first | (go_at_call 59; (with_reducible refine (R2_between _ _ _ _ true K0.out).mono ?_); rintro e w_ ⟨rfl, hw_⟩; subst w_) | (go_at_call 60; (with_reducible refine (R2_place h.along _ false K1.out).mono ?_); rintro e w_ ⟨rfl, hb_⟩; obtain ⟨y1, rfl⟩ := Soft.BW.mk hb_; clear hb_))
      go_ret
      refine ⟨ret_int HV.out.symm, ?_⟩
      (repeat (first | with_reducible exact bel_refl _ | with_reducible refine bel_alloc ?_ _ | with_reducible refine bel_bw _ ?_ | with_reducible refine bel_drew ?_ | with_reducible refine bel_drewN _ ?_ | ((with_reducible refine bel_set ?_ ?_ _); rotate_left; focus (first | (simp; done) | omega | (simp; omega))) | refine bel_step ?_ (by with_reducible assumption)))
  · have K0 := Lib.hid (decide_eq_false c0).symm
    have HV := Lib.hid (show holdErr h = 20 from if_neg (fun g => c0 g.id))
    clear c0
    go_enter Tryz.func20, Tryz.ntmps20
    go_wp2_with (first | (go_at_call 59; (with_reducible refine (R2_between _ _ _ _ false K0.out).mono ?_); rintro e w_ ⟨rfl, hw_⟩; subst w_))
    go_ret
    refine ⟨ret_int HV.out.symm, ?_⟩
    (repeat (first | with_reducible exact bel_refl _ | with_reducible refine bel_alloc ?_ _ | with_reducible refine bel_bw _ ?_ | with_reducible refine bel_drew ?_ | with_reducible refine bel_drewN _ ?_ | ((with_reducible refine bel_set ?_ ?_ _); rotate_left; focus (first | (simp; done) | omega | (simp; omega))) | refine bel_step ?_ (by with_reducible assumption)))

theorem R2_CheckTank (h : Tk) (w : World) (hh : h.At w) :
    Calls Tryz.prog 37 #[.agg #[.int .i64 (h).id, .int .i64 ((h).along).lo, .int .i64 ((h).along).hi, .slice ((h).vol).p ((h).vol).n ((h).vol).c, .slice ((h).sur).p ((h).sur).n ((h).sur).c, .slice ((h).hei).p ((h).hei).n ((h).hei).c]] w fun e w' => e = .returned (.int .i64 (tankErr h)) ∧ Below w.heap.size w w' := by
  obtain ⟨ha, hb, hc⟩ := hh
  by_cases c0 : 1 ≤ h.id ∧ h.id ≤ 9
  · have K0 := Lib.hid (decide_eq_true c0).symm
    by_cases c1 : isPart h.along (-1000000) 1000000
    · have K1 := Lib.hid (decide_eq_true c1).symm
      by_cases c2 : Tab2 h.vol.ps
      · have K2 := Lib.hid (decide_eq_true c2).symm
        have n0 : 1 ≤ h.vol.n := by rw [← ha.1]; exact c2.ok.pos
        have T0 := Lib.hid c2
        by_cases c3 : Tab2 h.sur.ps
        · have K3 := Lib.hid (decide_eq_true c3).symm
          have n1 : 1 ≤ h.sur.n := by rw [← hb.1]; exact c3.ok.pos
          by_cases c4 : Tab2 h.hei.ps
          · have K4 := Lib.hid (decide_eq_true c4).symm
            have n2 : 1 ≤ h.hei.n := by rw [← hc.1]; exact c4.ok.pos
            have T2 := Lib.hid c4
            by_cases c5 : sameEnds h.sur.ps h.vol.ps
            · have K5 := Lib.hid (decide_eq_true c5).symm
              by_cases c6 : sameEnds h.hei.ps h.vol.ps
              · have K6 := Lib.hid (decide_eq_true c6).symm
                by_cases c7 : mono h.vol.ps 1
                · have K7 := Lib.hid (decide_eq_true c7).symm
                  by_cases c8 : mono h.hei.ps 1
                  · have K8 := Lib.hid (decide_eq_true c8).symm
                    have HV := Lib.hid (show tankErr h = 0 from if_pos ⟨c0, c1, ⟨c2, ⟨c3, c5⟩, ⟨c4, c6⟩⟩, c7, c8⟩)
                    clear c0 c1 c2 c3 c4 c5 c6 c7 c8
                    go_enter Tryz.func37, Tryz.ntmps37
                    go_wp2_with (first | (go_at_call 59; (with_reducible refine (R2_between _ _ _ _ true K0.out).mono ?_); rintro e w_ ⟨rfl, hw_⟩; subst w_) | (go_at_call 60; (with_reducible refine (R2_place h.along _ true K1.out).mono ?_); rintro e w_ ⟨rfl, hb_⟩; obtain ⟨y1, rfl⟩ := Soft.BW.mk hb_; clear hb_) | (go_at_call 62; (with_reducible refine (R2_table h.vol _ (by repeat (first | exact ha | refine Tb.At.alloc ?_ _ | refine Tb.At.bw ?_ _)) true K2.out).mono ?_); rintro e w_ ⟨rfl, hb_⟩; obtain ⟨y2, rfl⟩ := Soft.BW.mk hb_; clear hb_) | (go_at_call 62; (with_reducible refine (R2_table h.sur _ (by repeat (first | exact hb | refine Tb.At.alloc ?_ _ | refine Tb.At.bw ?_ _)) true K3.out).mono ?_); rintro e w_ ⟨rfl, hb_⟩; obtain ⟨y3, rfl⟩ := Soft.BW.mk hb_; clear hb_) | (go_at_call 62; (with_reducible refine (R2_table h.hei _ (by repeat (first | exact hc | refine Tb.At.alloc ?_ _ | refine Tb.At.bw ?_ _)) true K4.out).mono ?_); rintro e w_ ⟨rfl, hb_⟩; obtain ⟨y4, rfl⟩ := Soft.BW.mk hb_; clear hb_) | (go_at_call 63; (with_reducible refine (R2_along h.vol h.sur _ (by repeat (first | exact ha | refine Tb.At.alloc ?_ _ | refine Tb.At.bw ?_ _)) (by repeat (first | exact hb | refine Tb.At.alloc ?_ _ | refine Tb.At.bw ?_ _)) n0 n1 true K5.out).mono ?_); rintro e w_ ⟨rfl, hb_⟩; obtain ⟨y5, rfl⟩ := Soft.BW.mk hb_; clear hb_) | (go_at_call 63; (with_reducible refine (R2_along h.vol h.hei _ (by repeat (first | exact ha | refine Tb.At.alloc ?_ _ | refine Tb.At.bw ?_ _)) (by repeat (first | exact hc | refine Tb.At.alloc ?_ _ | refine Tb.At.bw ?_ _)) n0 n2 true K6.out).mono ?_); rintro e w_ ⟨rfl, hb_⟩; obtain ⟨y6, rfl⟩ := Soft.BW.mk hb_; clear hb_) | (go_at_call 89; (with_reducible refine (R2_rises h.vol _ (by repeat (first | exact ha | refine Tb.At.alloc ?_ _ | refine Tb.At.bw ?_ _)) T0.out true K7.out).mono ?_); rintro e w_ ⟨rfl, hb_⟩; obtain ⟨y7, rfl⟩ := Soft.BW.mk hb_; clear hb_) | (go_at_call 89; (with_reducible refine (R2_rises h.hei _ (by repeat (first | exact hc | refine Tb.At.alloc ?_ _ | refine Tb.At.bw ?_ _)) T2.out true K8.out).mono ?_); rintro e w_ ⟨rfl, hb_⟩; obtain ⟨y8, rfl⟩ := Soft.BW.mk hb_; clear hb_))
                    go_ret
                    refine ⟨ret_int HV.out.symm, ?_⟩
                    (repeat (first | with_reducible exact bel_refl _ | with_reducible refine bel_alloc ?_ _ | with_reducible refine bel_bw _ ?_ | with_reducible refine bel_drew ?_ | with_reducible refine bel_drewN _ ?_ | ((with_reducible refine bel_set ?_ ?_ _); rotate_left; focus (first | (simp; done) | omega | (simp; omega))) | refine bel_step ?_ (by with_reducible assumption)))
                  · have K8 := Lib.hid (decide_eq_false c8).symm
                    have HV := Lib.hid (show tankErr h = 21 from if_neg (fun g => c8 g.mh))
                    clear c0 c1 c2 c3 c4 c5 c6 c7 c8
                    go_enter Tryz.func37, Tryz.ntmps37
                    go_wp2_with (first | (go_at_call 59; (with_reducible refine (R2_between _ _ _ _ true K0.out).mono ?_); rintro e w_ ⟨rfl, hw_⟩; subst w_) | (go_at_call 60; (with_reducible refine (R2_place h.along _ true K1.out).mono ?_); rintro e w_ ⟨rfl, hb_⟩; obtain ⟨y1, rfl⟩ := Soft.BW.mk hb_; clear hb_) | (go_at_call 62; (with_reducible refine (R2_table h.vol _ (by repeat (first | exact ha | refine Tb.At.alloc ?_ _ | refine Tb.At.bw ?_ _)) true K2.out).mono ?_); rintro e w_ ⟨rfl, hb_⟩; obtain ⟨y2, rfl⟩ := Soft.BW.mk hb_; clear hb_) | (go_at_call 62; (with_reducible refine (R2_table h.sur _ (by repeat (first | exact hb | refine Tb.At.alloc ?_ _ | refine Tb.At.bw ?_ _)) true K3.out).mono ?_); rintro e w_ ⟨rfl, hb_⟩; obtain ⟨y3, rfl⟩ := Soft.BW.mk hb_; clear hb_) | (go_at_call 62; (with_reducible refine (R2_table h.hei _ (by repeat (first | exact hc | refine Tb.At.alloc ?_ _ | refine Tb.At.bw ?_ _)) true K4.out).mono ?_); rintro e w_ ⟨rfl, hb_⟩; obtain ⟨y4, rfl⟩ := Soft.BW.mk hb_; clear hb_) | (go_at_call 63; (with_reducible refine (R2_along h.vol h.sur _ (by repeat (first | exact ha | refine Tb.At.alloc ?_ _ | refine Tb.At.bw ?_ _)) (by repeat (first | exact hb | refine Tb.At.alloc ?_ _ | refine Tb.At.bw ?_ _)) n0 n1 true K5.out).mono ?_); rintro e w_ ⟨rfl, hb_⟩; obtain ⟨y5, rfl⟩ := Soft.BW.mk hb_; clear hb_) | (go_at_call 63; (with_reducible refine (R2_along h.vol h.hei _ (by repeat (first | exact ha | refine Tb.At.alloc ?_ _ | refine Tb.At.bw ?_ _)) (by repeat (first | exact hc | refine Tb.At.alloc ?_ _ | refine Tb.At.bw ?_ _)) n0 n2 true K6.out).mono ?_); rintro e w_ ⟨rfl, hb_⟩; obtain ⟨y6, rfl⟩ := Soft.BW.mk hb_; clear hb_) | (go_at_call 89; (with_reducible refine (R2_rises h.vol _ (by repeat (first | exact ha | refine Tb.At.alloc ?_ _ | refine Tb.At.bw ?_ _)) T0.out true K7.out).mono ?_); rintro e w_ ⟨rfl, hb_⟩; obtain ⟨y7, rfl⟩ := Soft.BW.mk hb_; clear hb_) | (go_at_call 89; (with_reducible refine (R2_rises h.hei _ (by repeat (first | exact hc | refine Tb.At.alloc ?_ _ | refine Tb.At.bw ?_ _)) T2.out false K8.out).mono ?_); rintro e w_ ⟨rfl, hb_⟩; obtain ⟨y8, rfl⟩ := Soft.BW.mk hb_; clear hb_))
                    go_ret
                    refine ⟨ret_int HV.out.symm, ?_⟩
                    (repeat (first | with_reducible exact bel_refl _ | with_reducible refine bel_alloc ?_ _ | with_reducible refine bel_bw _ ?_ | with_reducible refine bel_drew ?_ | with_reducible refine bel_drewN _ ?_ | ((with_reducible refine bel_set ?_ ?_ _); rotate_left; focus (first | (simp; done) | omega | (simp; omega))) | refine bel_step ?_ (by with_reducible assumption)))
                · have K7 := Lib.hid (decide_eq_false c7).symm
                  have HV := Lib.hid (show tankErr h = 21 from if_neg (fun g => c7 g.mv))
                  clear c0 c1 c2 c3 c4 c5 c6 c7
                  go_enter Tryz.func37, Tryz.ntmps37
                  go_wp2_with (first | (go_at_call 59; (with_reducible refine (R2_between _ _ _ _ true K0.out).mono ?_); rintro e w_ ⟨rfl, hw_⟩; subst w_) | (go_at_call 60; (with_reducible refine (R2_place h.along _ true K1.out).mono ?_); rintro e w_ ⟨rfl, hb_⟩; obtain ⟨y1, rfl⟩ := Soft.BW.mk hb_; clear hb_) | (go_at_call 62; (with_reducible refine (R2_table h.vol _ (by repeat (first | exact ha | refine Tb.At.alloc ?_ _ | refine Tb.At.bw ?_ _)) true K2.out).mono ?_); rintro e w_ ⟨rfl, hb_⟩; obtain ⟨y2, rfl⟩ := Soft.BW.mk hb_; clear hb_) | (go_at_call 62; (with_reducible refine (R2_table h.sur _ (by repeat (first | exact hb | refine Tb.At.alloc ?_ _ | refine Tb.At.bw ?_ _)) true K3.out).mono ?_); rintro e w_ ⟨rfl, hb_⟩; obtain ⟨y3, rfl⟩ := Soft.BW.mk hb_; clear hb_) | (go_at_call 62; (with_reducible refine (R2_table h.hei _ (by repeat (first | exact hc | refine Tb.At.alloc ?_ _ | refine Tb.At.bw ?_ _)) true K4.out).mono ?_); rintro e w_ ⟨rfl, hb_⟩; obtain ⟨y4, rfl⟩ := Soft.BW.mk hb_; clear hb_) | (go_at_call 63; (with_reducible refine (R2_along h.vol h.sur _ (by repeat (first | exact ha | refine Tb.At.alloc ?_ _ | refine Tb.At.bw ?_ _)) (by repeat (first | exact hb | refine Tb.At.alloc ?_ _ | refine Tb.At.bw ?_ _)) n0 n1 true K5.out).mono ?_); rintro e w_ ⟨rfl, hb_⟩; obtain ⟨y5, rfl⟩ := Soft.BW.mk hb_; clear hb_) | (go_at_call 63; (with_reducible refine (R2_along h.vol h.hei _ (by repeat (first | exact ha | refine Tb.At.alloc ?_ _ | refine Tb.At.bw ?_ _)) (by repeat (first | exact hc | refine Tb.At.alloc ?_ _ | refine Tb.At.bw ?_ _)) n0 n2 true K6.out).mono ?_); rintro e w_ ⟨rfl, hb_⟩; obtain ⟨y6, rfl⟩ := Soft.BW.mk hb_; clear hb_) | (go_at_call 89; (with_reducible refine (R2_rises h.vol _ (by repeat (first | exact ha | refine Tb.At.alloc ?_ _ | refine Tb.At.bw ?_ _)) T0.out false K7.out).mono ?_); rintro e w_ ⟨rfl, hb_⟩; obtain ⟨y7, rfl⟩ := Soft.BW.mk hb_; clear hb_))
                  go_ret
                  refine ⟨ret_int HV.out.symm, ?_⟩
                  (repeat (first | with_reducible exact bel_refl _ | with_reducible refine bel_alloc ?_ _ | with_reducible refine bel_bw _ ?_ | with_reducible refine bel_drew ?_ | with_reducible refine bel_drewN _ ?_ | ((with_reducible refine bel_set ?_ ?_ _); rotate_left; focus (first | (simp; done) | omega | (simp; omega))) | refine bel_step ?_ (by with_reducible assumption)))
              · have K6 := Lib.hid (decide_eq_false c6).symm
                have HV := Lib.hid (show tankErr h = 21 from if_neg (fun g => c6 g.tabs.2.2.2))
                clear c0 c1 c2 c3 c4 c5 c6
                go_enter Tryz.func37, Tryz.ntmps37
                go_wp2_with (first | (go_at_call 59; (with_reducible refine (R2_between _ _ _ _ true K0.out).mono ?_); rintro e w_ ⟨rfl, hw_⟩; subst w_) | (go_at_call 60; (with_reducible refine (R2_place h.along _ true K1.out).mono ?_); rintro e w_ ⟨rfl, hb_⟩; obtain ⟨y1, rfl⟩ := Soft.BW.mk hb_; clear hb_) | (go_at_call 62; (with_reducible refine (R2_table h.vol _ (by repeat (first | exact ha | refine Tb.At.alloc ?_ _ | refine Tb.At.bw ?_ _)) true K2.out).mono ?_); rintro e w_ ⟨rfl, hb_⟩; obtain ⟨y2, rfl⟩ := Soft.BW.mk hb_; clear hb_) | (go_at_call 62; (with_reducible refine (R2_table h.sur _ (by repeat (first | exact hb | refine Tb.At.alloc ?_ _ | refine Tb.At.bw ?_ _)) true K3.out).mono ?_); rintro e w_ ⟨rfl, hb_⟩; obtain ⟨y3, rfl⟩ := Soft.BW.mk hb_; clear hb_) | (go_at_call 62; (with_reducible refine (R2_table h.hei _ (by repeat (first | exact hc | refine Tb.At.alloc ?_ _ | refine Tb.At.bw ?_ _)) true K4.out).mono ?_); rintro e w_ ⟨rfl, hb_⟩; obtain ⟨y4, rfl⟩ := Soft.BW.mk hb_; clear hb_) | (go_at_call 63; (with_reducible refine (R2_along h.vol h.sur _ (by repeat (first | exact ha | refine Tb.At.alloc ?_ _ | refine Tb.At.bw ?_ _)) (by repeat (first | exact hb | refine Tb.At.alloc ?_ _ | refine Tb.At.bw ?_ _)) n0 n1 true K5.out).mono ?_); rintro e w_ ⟨rfl, hb_⟩; obtain ⟨y5, rfl⟩ := Soft.BW.mk hb_; clear hb_) | (go_at_call 63; (with_reducible refine (R2_along h.vol h.hei _ (by repeat (first | exact ha | refine Tb.At.alloc ?_ _ | refine Tb.At.bw ?_ _)) (by repeat (first | exact hc | refine Tb.At.alloc ?_ _ | refine Tb.At.bw ?_ _)) n0 n2 false K6.out).mono ?_); rintro e w_ ⟨rfl, hb_⟩; obtain ⟨y6, rfl⟩ := Soft.BW.mk hb_; clear hb_))
                go_ret
                refine ⟨ret_int HV.out.symm, ?_⟩
                (repeat (first | with_reducible exact bel_refl _ | with_reducible refine bel_alloc ?_ _ | with_reducible refine bel_bw _ ?_ | with_reducible refine bel_drew ?_ | with_reducible refine bel_drewN _ ?_ | ((with_reducible refine bel_set ?_ ?_ _); rotate_left; focus (first | (simp; done) | omega | (simp; omega))) | refine bel_step ?_ (by with_reducible assumption)))
            · have K5 := Lib.hid (decide_eq_false c5).symm
              have HV := Lib.hid (show tankErr h = 21 from if_neg (fun g => c5 g.tabs.2.1.2))
              clear c0 c1 c2 c3 c4 c5
              go_enter Tryz.func37, Tryz.ntmps37
              go_wp2_with (first | (go_at_call 59; (with_reducible refine (R2_between _ _ _ _ true K0.out).mono ?_); rintro e w_ ⟨rfl, hw_⟩; subst w_) | (go_at_call 60; (with_reducible refine (R2_place h.along _ true K1.out).mono ?_); rintro e w_ ⟨rfl, hb_⟩; obtain ⟨y1, rfl⟩ := Soft.BW.mk hb_; clear hb_) | (go_at_call 62; (with_reducible refine (R2_table h.vol _ (by repeat (first | exact ha | refine Tb.At.alloc ?_ _ | refine Tb.At.bw ?_ _)) true K2.out).mono ?_); rintro e w_ ⟨rfl, hb_⟩; obtain ⟨y2, rfl⟩ := Soft.BW.mk hb_; clear hb_) | (go_at_call 62; (with_reducible refine (R2_table h.sur _ (by repeat (first | exact hb | refine Tb.At.alloc ?_ _ | refine Tb.At.bw ?_ _)) true K3.out).mono ?_); rintro e w_ ⟨rfl, hb_⟩; obtain ⟨y3, rfl⟩ := Soft.BW.mk hb_; clear hb_) | (go_at_call 62; (with_reducible refine (R2_table h.hei _ (by repeat (first | exact hc | refine Tb.At.alloc ?_ _ | refine Tb.At.bw ?_ _)) true K4.out).mono ?_); rintro e w_ ⟨rfl, hb_⟩; obtain ⟨y4, rfl⟩ := Soft.BW.mk hb_; clear hb_) | (go_at_call 63; (with_reducible refine (R2_along h.vol h.sur _ (by repeat (first | exact ha | refine Tb.At.alloc ?_ _ | refine Tb.At.bw ?_ _)) (by repeat (first | exact hb | refine Tb.At.alloc ?_ _ | refine Tb.At.bw ?_ _)) n0 n1 false K5.out).mono ?_); rintro e w_ ⟨rfl, hb_⟩; obtain ⟨y5, rfl⟩ := Soft.BW.mk hb_; clear hb_))
              go_ret
              refine ⟨ret_int HV.out.symm, ?_⟩
              (repeat (first | with_reducible exact bel_refl _ | with_reducible refine bel_alloc ?_ _ | with_reducible refine bel_bw _ ?_ | with_reducible refine bel_drew ?_ | with_reducible refine bel_drewN _ ?_ | ((with_reducible refine bel_set ?_ ?_ _); rotate_left; focus (first | (simp; done) | omega | (simp; omega))) | refine bel_step ?_ (by with_reducible assumption)))
          · have K4 := Lib.hid (decide_eq_false c4).symm
            have HV := Lib.hid (show tankErr h = 21 from if_neg (fun g => c4 g.tabs.2.2.1))
            clear c0 c1 c2 c3 c4
            go_enter Tryz.func37, Tryz.ntmps37
            go_wp2_with (first | (go_at_call 59; (with_reducible refine (R2_between _ _ _ _ true K0.out).mono ?_); rintro e w_ ⟨rfl, hw_⟩; subst w_) | (go_at_call 60; (with_reducible refine (R2_place h.along _ true K1.out).mono ?_); rintro e w_ ⟨rfl, hb_⟩; obtain ⟨y1, rfl⟩ := Soft.BW.mk hb_; clear hb_) | (go_at_call 62; (with_reducible refine (R2_table h.vol _ (by repeat (first | exact ha | refine Tb.At.alloc ?_ _ | refine Tb.At.bw ?_ _)) true K2.out).mono ?_); rintro e w_ ⟨rfl, hb_⟩; obtain ⟨y2, rfl⟩ := Soft.BW.mk hb_; clear hb_) | (go_at_call 62; (with_reducible refine (R2_table h.sur _ (by repeat (first | exact hb | refine Tb.At.alloc ?_ _ | refine Tb.At.bw ?_ _)) true K3.out).mono ?_); rintro e w_ ⟨rfl, hb_⟩; obtain ⟨y3, rfl⟩ := Soft.BW.mk hb_; clear hb_) | (go_at_call 62; (with_reducible refine (R2_table h.hei _ (by repeat (first | exact hc | refine Tb.At.alloc ?_ _ | refine Tb.At.bw ?_ _)) false K4.out).mono ?_); rintro e w_ ⟨rfl, hb_⟩; obtain ⟨y4, rfl⟩ := Soft.BW.mk hb_; clear hb_))
            go_ret
            refine ⟨ret_int HV.out.symm, ?_⟩
            (repeat (first | with_reducible exact bel_refl _ | with_reducible refine bel_alloc ?_ _ | with_reducible refine bel_bw _ ?_ | with_reducible refine bel_drew ?_ | with_reducible refine bel_drewN _ ?_ | ((with_reducible refine bel_set ?_ ?_ _); rotate_left; focus (first | (simp; done) | omega | (simp; omega))) | refine bel_step ?_ (by with_reducible assumption)))
        · have K3 := Lib.hid (decide_eq_false c3).symm
          have HV := Lib.hid (show tankErr h = 21 from if_neg (fun g => c3 g.tabs.2.1.1))
          clear c0 c1 c2 c3
          go_enter Tryz.func37, Tryz.ntmps37
          go_wp2_with (first | (go_at_call 59; (with_reducible refine (R2_between _ _ _ _ true K0.out).mono ?_); rintro e w_ ⟨rfl, hw_⟩; subst w_) | (go_at_call 60; (with_reducible refine (R2_place h.along _ true K1.out).mono ?_); rintro e w_ ⟨rfl, hb_⟩; obtain ⟨y1, rfl⟩ := Soft.BW.mk hb_; clear hb_) | (go_at_call 62; (with_reducible refine (R2_table h.vol _ (by repeat (first | exact ha | refine Tb.At.alloc ?_ _ | refine Tb.At.bw ?_ _)) true K2.out).mono ?_); rintro e w_ ⟨rfl, hb_⟩; obtain ⟨y2, rfl⟩ := Soft.BW.mk hb_; clear hb_) | (go_at_call 62; (with_reducible refine (R2_table h.sur _ (by repeat (first | exact hb | refine Tb.At.alloc ?_ _ | refine Tb.At.bw ?_ _)) false K3.out).mono ?_); rintro e w_ ⟨rfl, hb_⟩; obtain ⟨y3, rfl⟩ := Soft.BW.mk hb_; clear hb_))
          go_ret
          refine ⟨ret_int HV.out.symm, ?_⟩
          (repeat (first | with_reducible exact bel_refl _ | with_reducible refine bel_alloc ?_ _ | with_reducible refine bel_bw _ ?_ | with_reducible refine bel_drew ?_ | with_reducible refine bel_drewN _ ?_ | ((with_reducible refine bel_set ?_ ?_ _); rotate_left; focus (first | (simp; done) | omega | (simp; omega))) | refine bel_step ?_ (by with_reducible assumption)))
      · have K2 := Lib.hid (decide_eq_false c2).symm
        have HV := Lib.hid (show tankErr h = 21 from if_neg (fun g => c2 g.tabs.1))
        clear c0 c1 c2
        go_enter Tryz.func37, Tryz.ntmps37
        go_wp2_with (first | (go_at_call 59; (with_reducible refine (R2_between _ _ _ _ true K0.out).mono ?_); rintro e w_ ⟨rfl, hw_⟩; subst w_) | (go_at_call 60; (with_reducible refine (R2_place h.along _ true K1.out).mono ?_); rintro e w_ ⟨rfl, hb_⟩; obtain ⟨y1, rfl⟩ := Soft.BW.mk hb_; clear hb_) | (go_at_call 62; (with_reducible refine (R2_table h.vol _ (by repeat (first | exact ha | refine Tb.At.alloc ?_ _ | refine Tb.At.bw ?_ _)) false K2.out).mono ?_); rintro e w_ ⟨rfl, hb_⟩; obtain ⟨y2, rfl⟩ := Soft.BW.mk hb_; clear hb_))
        go_ret
        refine ⟨ret_int HV.out.symm, ?_⟩
        (repeat (first | with_reducible exact bel_refl _ | with_reducible refine bel_alloc ?_ _ | with_reducible refine bel_bw _ ?_ | with_reducible refine bel_drew ?_ | with_reducible refine bel_drewN _ ?_ | ((with_reducible refine bel_set ?_ ?_ _); rotate_left; focus (first | (simp; done) | omega | (simp; omega))) | refine bel_step ?_ (by with_reducible assumption)))
    · have K1 := Lib.hid (decide_eq_false c1).symm
      have HV := Lib.hid (show tankErr h = 21 from if_neg (fun g => c1 g.along))
      clear c0 c1
      go_enter Tryz.func37, Tryz.ntmps37
      go_wp2_with (first | (go_at_call 59; (with_reducible refine (R2_between _ _ _ _ true K0.out).mono ?_); rintro e w_ ⟨rfl, hw_⟩; subst w_) | (go_at_call 60; (with_reducible refine (R2_place h.along _ false K1.out).mono ?_); rintro e w_ ⟨rfl, hb_⟩; obtain ⟨y1, rfl⟩ := Soft.BW.mk hb_; clear hb_))
      go_ret
      refine ⟨ret_int HV.out.symm, ?_⟩
      (repeat (first | with_reducible exact bel_refl _ | with_reducible refine bel_alloc ?_ _ | with_reducible refine bel_bw _ ?_ | with_reducible refine bel_drew ?_ | with_reducible refine bel_drewN _ ?_ | ((with_reducible refine bel_set ?_ ?_ _); rotate_left; focus (first | (simp; done) | omega | (simp; omega))) | refine bel_step ?_ (by with_reducible assumption)))
  · have K0 := Lib.hid (decide_eq_false c0).symm
    have HV := Lib.hid (show tankErr h = 21 from if_neg (fun g => c0 g.id))
    clear c0
    go_enter Tryz.func37, Tryz.ntmps37
    go_wp2_with (first | (go_at_call 59; (with_reducible refine (R2_between _ _ _ _ false K0.out).mono ?_); rintro e w_ ⟨rfl, hw_⟩; subst w_))
    go_ret
    refine ⟨ret_int HV.out.symm, ?_⟩
    (repeat (first | with_reducible exact bel_refl _ | with_reducible refine bel_alloc ?_ _ | with_reducible refine bel_bw _ ?_ | with_reducible refine bel_drew ?_ | with_reducible refine bel_drewN _ ?_ | ((with_reducible refine bel_set ?_ ?_ _); rotate_left; focus (first | (simp; done) | omega | (simp; omega))) | refine bel_step ?_ (by with_reducible assumption)))

end Go.Proofs.YtbjdgaeikihjbaaGreat
