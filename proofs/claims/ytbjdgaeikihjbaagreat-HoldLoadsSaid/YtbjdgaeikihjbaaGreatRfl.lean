/-
  The reference's places, CheckFill, hull, ullage.
  Conditions: each theorem's own premises.
-/
import Derived.Test.YtbjdgaeikihjbaaGreatRfd
import Derived.Test.YtbjdgaeikihjbaaGreatFirs
import Derived.Test.YtbjdgaeikihjbaaGreatLit
namespace Go.Proofs.YtbjdgaeikihjbaaGreat
set_option linter.unusedSimpArgs false
set_option linter.unusedVariables false
open Go.RowKit
set_option maxRecDepth 100000
set_option maxHeartbeats 4000000
attribute [local go_sem] Instr.field asAgg Soft.upon Soft.BW.cell_if Soft.BW.frozen_if Soft.cell_alloc_if Soft.frozen_alloc_if

theorem R2_places (t : Tb) (r : Rg) (w : World) (ht : t.At w) (hn : 1 ≤ t.n) (v : Bool) (hv : v = decide (isPart r (firstX t.ps) (lastX t.ps))) :
    Calls Tryz.prog 71 #[.agg #[.slice (t).p (t).n (t).c], .agg #[.int .i64 (r).lo, .int .i64 (r).hi]] w fun e w' => e = .returned (.bool v) ∧ Below w.heap.size w w' := by
  have CF := Lib.hid (fun W hW => R2_First t W hW hn)
  have CL := Lib.hid (fun W hW => R2_Last t W hW hn)
  have HV : Hid (v = decide (firstX t.ps ≤ r.lo ∧ r.lo ≤ r.hi ∧ r.hi ≤ lastX t.ps)) := Lib.hid hv
  clear hv
  generalize firstX t.ps = a at *
  generalize lastX t.ps = b at *
  by_cases e0 : a ≤ r.lo
  · have d0 : decide (a ≤ r.lo) = true := decide_eq_true e0
    by_cases e1 : r.lo ≤ r.hi
    · have d1 : decide (r.lo ≤ r.hi) = true := decide_eq_true e1
      by_cases e2 : r.hi ≤ b
      · have d2 : decide (r.hi ≤ b) = true := decide_eq_true e2
        have HW := Lib.hid (show v = true by rw [HV.out]; exact decide_eq_true ⟨e0, e1, e2⟩)
        go_enter Tryz.func71, Tryz.ntmps71
        go_wp2_with fail
        (refine Soft.region0 [0, 1, 2, 3, 4, 5, 6, 7, 8, 9, 10, 11, 12, 13, 14, 15, 16, 17, 18, 19] [] (by kernel_rfl) (by kernel_rfl) (by kernel_rfl) (by kernel_rfl) ?_; change Soft.wpSoft _ _ _ _ _ [_, _, _, _, _, _, _, _, _, _, _, _, _, _, _, _, _, _, _, _] _; (repeat (refine Soft.soft_step (fun K hK => ?_); go_simp; (try go_bits); first | (refine hK _ ?_; clear hK K) | (apply Exists.intro; refine ⟨fun x => ?_, hK _ ?_⟩; (first | (go_at_call 98; with_reducible exact (CF.out _ (by repeat (first | exact ht | refine Tb.At.alloc ?_ _ | refine Tb.At.bw ?_ _)))) | (go_at_call 90; with_reducible exact (CL.out _ (by repeat (first | exact ht | refine Tb.At.alloc ?_ _ | refine Tb.At.bw ?_ _))))); clear hK K))); refine Soft.soft_nil ?_; intro xw; change wpList _ _ _ [] _ _)
        change wpList _ _ _ [] _ _
        go_wp2_with fail
        go_ret
        refine ⟨ret_bool HW.out.symm, ?_⟩
        (repeat (first | with_reducible exact bel_refl _ | with_reducible refine bel_alloc ?_ _ | with_reducible refine bel_bw _ ?_ | with_reducible refine bel_drew ?_ | with_reducible refine bel_drewN _ ?_ | ((with_reducible refine bel_set ?_ ?_ _); rotate_left; focus (first | (simp; done) | omega | (simp; omega))) | refine bel_step ?_ (by with_reducible assumption)))
      · have d2 : decide (r.hi ≤ b) = false := decide_eq_false e2
        have HW := Lib.hid (show v = false by rw [HV.out]; exact decide_eq_false (fun g => e2 g.2.2))
        go_enter Tryz.func71, Tryz.ntmps71
        go_wp2_with fail
        (refine Soft.region0 [0, 1, 2, 3, 4, 5, 6, 7, 8, 9, 10, 11, 12, 13, 14, 15, 16, 17, 18, 19] [] (by kernel_rfl) (by kernel_rfl) (by kernel_rfl) (by kernel_rfl) ?_; change Soft.wpSoft _ _ _ _ _ [_, _, _, _, _, _, _, _, _, _, _, _, _, _, _, _, _, _, _, _] _; (repeat (refine Soft.soft_step (fun K hK => ?_); go_simp; (try go_bits); first | (refine hK _ ?_; clear hK K) | (apply Exists.intro; refine ⟨fun x => ?_, hK _ ?_⟩; (first | (go_at_call 98; with_reducible exact (CF.out _ (by repeat (first | exact ht | refine Tb.At.alloc ?_ _ | refine Tb.At.bw ?_ _)))) | (go_at_call 90; with_reducible exact (CL.out _ (by repeat (first | exact ht | refine Tb.At.alloc ?_ _ | refine Tb.At.bw ?_ _))))); clear hK K))); refine Soft.soft_nil ?_; intro xw; change wpList _ _ _ [] _ _)
        change wpList _ _ _ [] _ _
        go_wp2_with fail
        go_ret
        refine ⟨ret_bool HW.out.symm, ?_⟩
        (repeat (first | with_reducible exact bel_refl _ | with_reducible refine bel_alloc ?_ _ | with_reducible refine bel_bw _ ?_ | with_reducible refine bel_drew ?_ | with_reducible refine bel_drewN _ ?_ | ((with_reducible refine bel_set ?_ ?_ _); rotate_left; focus (first | (simp; done) | omega | (simp; omega))) | refine bel_step ?_ (by with_reducible assumption)))
    · have d1 : decide (r.lo ≤ r.hi) = false := decide_eq_false e1
      have HW := Lib.hid (show v = false by rw [HV.out]; exact decide_eq_false (fun g => e1 g.2.1))
      go_enter Tryz.func71, Tryz.ntmps71
      go_wp2_with fail
      (refine Soft.region0 [0, 1, 2, 3, 4, 5, 6, 7, 8, 9, 10, 11, 12, 13, 14, 15, 16, 17, 18, 19] [] (by kernel_rfl) (by kernel_rfl) (by kernel_rfl) (by kernel_rfl) ?_; change Soft.wpSoft _ _ _ _ _ [_, _, _, _, _, _, _, _, _, _, _, _, _, _, _, _, _, _, _, _] _; (repeat (refine Soft.soft_step (fun K hK => ?_); go_simp; (try go_bits); first | (refine hK _ ?_; clear hK K) | (apply Exists.intro; refine ⟨fun x => ?_, hK _ ?_⟩; ((go_at_call 98; with_reducible exact (CF.out _ (by repeat (first | exact ht | refine Tb.At.alloc ?_ _ | refine Tb.At.bw ?_ _))))); clear hK K))); refine Soft.soft_nil ?_; intro xw; change wpList _ _ _ [] _ _)
      change wpList _ _ _ [] _ _
      go_wp2_with fail
      go_ret
      refine ⟨ret_bool HW.out.symm, ?_⟩
      (repeat (first | with_reducible exact bel_refl _ | with_reducible refine bel_alloc ?_ _ | with_reducible refine bel_bw _ ?_ | with_reducible refine bel_drew ?_ | with_reducible refine bel_drewN _ ?_ | ((with_reducible refine bel_set ?_ ?_ _); rotate_left; focus (first | (simp; done) | omega | (simp; omega))) | refine bel_step ?_ (by with_reducible assumption)))
  · have d0 : decide (a ≤ r.lo) = false := decide_eq_false e0
    have HW := Lib.hid (show v = false by rw [HV.out]; exact decide_eq_false (fun g => e0 g.1))
    go_enter Tryz.func71, Tryz.ntmps71
    go_wp2_with fail
    (refine Soft.region0 [0, 1, 2, 3, 4, 5, 6, 7, 8, 9, 10, 11, 12, 13, 14, 15, 16, 17, 18, 19] [] (by kernel_rfl) (by kernel_rfl) (by kernel_rfl) (by kernel_rfl) ?_; change Soft.wpSoft _ _ _ _ _ [_, _, _, _, _, _, _, _, _, _, _, _, _, _, _, _, _, _, _, _] _; (repeat (refine Soft.soft_step (fun K hK => ?_); go_simp; (try go_bits); first | (refine hK _ ?_; clear hK K) | (apply Exists.intro; refine ⟨fun x => ?_, hK _ ?_⟩; ((go_at_call 98; with_reducible exact (CF.out _ (by repeat (first | exact ht | refine Tb.At.alloc ?_ _ | refine Tb.At.bw ?_ _))))); clear hK K))); refine Soft.soft_nil ?_; intro xw; change wpList _ _ _ [] _ _)
    change wpList _ _ _ [] _ _
    go_wp2_with fail
    go_ret
    refine ⟨ret_bool HW.out.symm, ?_⟩
    (repeat (first | with_reducible exact bel_refl _ | with_reducible refine bel_alloc ?_ _ | with_reducible refine bel_bw _ ?_ | with_reducible refine bel_drew ?_ | with_reducible refine bel_drewN _ ?_ | ((with_reducible refine bel_set ?_ ?_ _); rotate_left; focus (first | (simp; done) | omega | (simp; omega))) | refine bel_step ?_ (by with_reducible assumption)))

set_option maxHeartbeats 8000000 in
theorem R2_CheckFill (h : Ho) (f : Fi) (w : World) (hh : h.At w) :
    Calls Tryz.prog 22 #[.agg #[.int .i64 (h).id, .int .i64 ((h).along).lo, .int .i64 ((h).along).hi, .slice ((h).vol).p ((h).vol).n ((h).vol).c, .slice ((h).mom).p ((h).mom).n ((h).mom).c, .slice ((h).hei).p ((h).hei).n ((h).hei).c, .int .i64 ((h).tri).lo, .int .i64 ((h).tri).hi, .int .i64 ((h).unt).lo, .int .i64 ((h).unt).hi, .int .i64 ((h).v0).lo, .int .i64 ((h).v0).hi, .int .i64 ((h).h0).lo, .int .i64 ((h).h0).hi], .agg #[.int .i64 (f).hold, .int .i64 (f).state, .int .i64 ((f).ull).lo, .int .i64 ((f).ull).hi, .int .i64 ((f).den).lo, .int .i64 ((f).den).hi]] w fun e w' => e = .returned (.int .i64 (fillErr h f)) ∧ Below w.heap.size w w' := by
  by_cases h0 : HoldOk h
  · have hE : holdErr h = 0 := if_pos h0
    have CC := Lib.hid (fun W hW => R2_CheckHold h W hW)
    rw [hE] at CC
    have hv := hh.1
    have hn : 1 ≤ h.vol.n := by rw [← hv.1]; exact h0.tabs.1.ok.pos
    have H0 := Lib.hid h0; clear h0 hE
    by_cases c0 : f.state = 0
    · have d0 : (f.state == 0) = true := by rw [c0]; rfl
      have F1 := Lib.hid (show false = decide (1 ≤ f.state ∧ f.state ≤ 2) from (decide_eq_false (by omega)).symm)
      have F2 := Lib.hid (show false = decide (3 ≤ f.state ∧ f.state ≤ 5) from (decide_eq_false (by omega)).symm)
      have HC := Lib.hid c0; clear c0
      go_enter Tryz.func22, Tryz.ntmps22
      go_wp2_with (first | (go_at_call 20; (with_reducible refine (CC.out _ (by with_reducible repeat (first | exact hh | refine Ho.At.alloc ?_ _ | refine Ho.At.bw ?_ _ | refine Tk.At.alloc ?_ _ | refine Tk.At.bw ?_ _))).mono ?_); rintro e w_ ⟨rfl, hb_⟩; obtain ⟨y1, rfl⟩ := Soft.BW.mk hb_; clear hb_) | (go_at_call 68; (with_reducible refine (R2_Filled f.state _ _ F1.out).mono ?_); rintro e w_ ⟨rfl, hw_⟩; subst w_) | (go_at_call 70; (with_reducible refine (R2_Free f.state _ _ F2.out).mono ?_); rintro e w_ ⟨rfl, hw_⟩; subst w_))
      all_goals
      go_ret
      refine ⟨ret_int (fillErr_val h f H0.out _ ?_), ?_⟩
      rotate_left
      (repeat (first | with_reducible exact bel_refl _ | with_reducible refine bel_alloc ?_ _ | with_reducible refine bel_bw _ ?_ | with_reducible refine bel_drew ?_ | with_reducible refine bel_drewN _ ?_ | ((with_reducible refine bel_set ?_ ?_ _); rotate_left; focus (first | (simp; done) | omega | (simp; omega))) | refine bel_step ?_ (by with_reducible assumption)))
      have hc_ := HC.out
      (try simp only [Bool.not_eq_true', Bool.not_eq_false', decide_eq_true_eq, decide_eq_false_iff_not, true_and, and_true, Bool.and_eq_true, beq_iff_eq, Bool.and_eq_false_iff, beq_eq_false_iff_ne, bne_iff_ne, Bool.or_eq_true, Bool.not_eq_eq_eq_not, Bool.not_true, Bool.not_false] at *)
      simp only [isDen, isPart] at *
      omega
    · have d0 : (f.state == 0) = false := by rw [beq_eq_false_iff_ne]; exact c0
      by_cases c1 : 1 ≤ f.state ∧ f.state ≤ 2
      · have F1 := Lib.hid (show true = decide (1 ≤ f.state ∧ f.state ≤ 2) from (decide_eq_true c1).symm)
        have F2 := Lib.hid (show false = decide (3 ≤ f.state ∧ f.state ≤ 5) from (decide_eq_false (by omega)).symm)
        have HC := Lib.hid c1; clear c0 c1
        go_enter Tryz.func22, Tryz.ntmps22
        go_wp2_with (first | (go_at_call 20; (with_reducible refine (CC.out _ (by with_reducible repeat (first | exact hh | refine Ho.At.alloc ?_ _ | refine Ho.At.bw ?_ _ | refine Tk.At.alloc ?_ _ | refine Tk.At.bw ?_ _))).mono ?_); rintro e w_ ⟨rfl, hb_⟩; obtain ⟨y1, rfl⟩ := Soft.BW.mk hb_; clear hb_) | (go_at_call 68; (with_reducible refine (R2_Filled f.state _ _ F1.out).mono ?_); rintro e w_ ⟨rfl, hw_⟩; subst w_) | (go_at_call 70; (with_reducible refine (R2_Free f.state _ _ F2.out).mono ?_); rintro e w_ ⟨rfl, hw_⟩; subst w_) | (go_at_call 69; (with_reducible refine (R2_density f.den _ _ rfl).mono ?_); rintro e w_ ⟨rfl, hb_⟩; obtain ⟨y2, rfl⟩ := Soft.BW.mk hb_; clear hb_))
        all_goals
        go_ret
        refine ⟨ret_int (fillErr_val h f H0.out _ ?_), ?_⟩
        rotate_left
        (repeat (first | with_reducible exact bel_refl _ | with_reducible refine bel_alloc ?_ _ | with_reducible refine bel_bw _ ?_ | with_reducible refine bel_drew ?_ | with_reducible refine bel_drewN _ ?_ | ((with_reducible refine bel_set ?_ ?_ _); rotate_left; focus (first | (simp; done) | omega | (simp; omega))) | refine bel_step ?_ (by with_reducible assumption)))
        have hc_ := HC.out
        (try simp only [Bool.not_eq_true', Bool.not_eq_false', decide_eq_true_eq, decide_eq_false_iff_not, true_and, and_true, Bool.and_eq_true, beq_iff_eq, Bool.and_eq_false_iff, beq_eq_false_iff_ne, bne_iff_ne, Bool.or_eq_true, Bool.not_eq_eq_eq_not, Bool.not_true, Bool.not_false] at *)
        simp only [isDen, isPart] at *
        omega
      · have F1 := Lib.hid (show false = decide (1 ≤ f.state ∧ f.state ≤ 2) from (decide_eq_false c1).symm)
        by_cases c2 : 3 ≤ f.state ∧ f.state ≤ 5
        · have F2 := Lib.hid (show true = decide (3 ≤ f.state ∧ f.state ≤ 5) from (decide_eq_true c2).symm)
          have HC := Lib.hid c2; clear c0 c1 c2
          go_enter Tryz.func22, Tryz.ntmps22
          go_wp2_with (first | (go_at_call 20; (with_reducible refine (CC.out _ (by with_reducible repeat (first | exact hh | refine Ho.At.alloc ?_ _ | refine Ho.At.bw ?_ _ | refine Tk.At.alloc ?_ _ | refine Tk.At.bw ?_ _))).mono ?_); rintro e w_ ⟨rfl, hb_⟩; obtain ⟨y1, rfl⟩ := Soft.BW.mk hb_; clear hb_) | (go_at_call 68; (with_reducible refine (R2_Filled f.state _ _ F1.out).mono ?_); rintro e w_ ⟨rfl, hw_⟩; subst w_) | (go_at_call 70; (with_reducible refine (R2_Free f.state _ _ F2.out).mono ?_); rintro e w_ ⟨rfl, hw_⟩; subst w_) | (go_at_call 69; (with_reducible refine (R2_density f.den _ _ rfl).mono ?_); rintro e w_ ⟨rfl, hb_⟩; obtain ⟨y2, rfl⟩ := Soft.BW.mk hb_; clear hb_) | (go_at_call 71; (with_reducible refine (R2_places h.vol f.ull _ (by repeat (first | exact hv | refine Tb.At.alloc ?_ _ | refine Tb.At.bw ?_ _)) hn _ rfl).mono ?_); rintro e w_ ⟨rfl, hb_⟩; obtain ⟨y3, rfl⟩ := Soft.BW.mk hb_; clear hb_))
          all_goals
          go_ret
          refine ⟨ret_int (fillErr_val h f H0.out _ ?_), ?_⟩
          rotate_left
          (repeat (first | with_reducible exact bel_refl _ | with_reducible refine bel_alloc ?_ _ | with_reducible refine bel_bw _ ?_ | with_reducible refine bel_drew ?_ | with_reducible refine bel_drewN _ ?_ | ((with_reducible refine bel_set ?_ ?_ _); rotate_left; focus (first | (simp; done) | omega | (simp; omega))) | refine bel_step ?_ (by with_reducible assumption)))
          have hc_ := HC.out
          (try simp only [Bool.not_eq_true', Bool.not_eq_false', decide_eq_true_eq, decide_eq_false_iff_not, true_and, and_true, Bool.and_eq_true, beq_iff_eq, Bool.and_eq_false_iff, beq_eq_false_iff_ne, bne_iff_ne, Bool.or_eq_true, Bool.not_eq_eq_eq_not, Bool.not_true, Bool.not_false] at *)
          simp only [isDen, isPart] at *
          omega
        · have F2 := Lib.hid (show false = decide (3 ≤ f.state ∧ f.state ≤ 5) from (decide_eq_false c2).symm)
          have HC := Lib.hid (show ¬(0 ≤ f.state ∧ f.state ≤ 5) by omega); clear c0 c1 c2
          go_enter Tryz.func22, Tryz.ntmps22
          go_wp2_with (first | (go_at_call 20; (with_reducible refine (CC.out _ (by with_reducible repeat (first | exact hh | refine Ho.At.alloc ?_ _ | refine Ho.At.bw ?_ _ | refine Tk.At.alloc ?_ _ | refine Tk.At.bw ?_ _))).mono ?_); rintro e w_ ⟨rfl, hb_⟩; obtain ⟨y1, rfl⟩ := Soft.BW.mk hb_; clear hb_) | (go_at_call 68; (with_reducible refine (R2_Filled f.state _ _ F1.out).mono ?_); rintro e w_ ⟨rfl, hw_⟩; subst w_) | (go_at_call 70; (with_reducible refine (R2_Free f.state _ _ F2.out).mono ?_); rintro e w_ ⟨rfl, hw_⟩; subst w_))
          all_goals
          go_ret
          refine ⟨ret_int (fillErr_val h f H0.out _ ?_), ?_⟩
          rotate_left
          (repeat (first | with_reducible exact bel_refl _ | with_reducible refine bel_alloc ?_ _ | with_reducible refine bel_bw _ ?_ | with_reducible refine bel_drew ?_ | with_reducible refine bel_drewN _ ?_ | ((with_reducible refine bel_set ?_ ?_ _); rotate_left; focus (first | (simp; done) | omega | (simp; omega))) | refine bel_step ?_ (by with_reducible assumption)))
          have hc_ := HC.out
          (try simp only [Bool.not_eq_true', Bool.not_eq_false', decide_eq_true_eq, decide_eq_false_iff_not, true_and, and_true, Bool.and_eq_true, beq_iff_eq, Bool.and_eq_false_iff, beq_eq_false_iff_ne, bne_iff_ne, Bool.or_eq_true, Bool.not_eq_eq_eq_not, Bool.not_true, Bool.not_false] at *)
          simp only [isDen, isPart] at *
          omega
  · have hE : holdErr h = 20 := if_neg h0
    have hE' : fillErr h f = 20 := if_neg h0
    have CC := Lib.hid (fun W hW => R2_CheckHold h W hW)
    rw [hE] at CC
    have HE := Lib.hid hE'; clear h0 hE' hE
    go_enter Tryz.func22, Tryz.ntmps22
    go_wp2_with (go_at_call 20; (with_reducible refine (CC.out _ (by with_reducible repeat (first | exact hh | refine Ho.At.alloc ?_ _ | refine Ho.At.bw ?_ _ | refine Tk.At.alloc ?_ _ | refine Tk.At.bw ?_ _))).mono ?_); rintro e w_ ⟨rfl, hb_⟩; obtain ⟨y1, rfl⟩ := Soft.BW.mk hb_; clear hb_)
    go_ret
    refine ⟨ret_int HE.out.symm, ?_⟩
    (repeat (first | with_reducible exact bel_refl _ | with_reducible refine bel_alloc ?_ _ | with_reducible refine bel_bw _ ?_ | with_reducible refine bel_drew ?_ | with_reducible refine bel_drewN _ ?_ | ((with_reducible refine bel_set ?_ ?_ _); rotate_left; focus (first | (simp; done) | omega | (simp; omega))) | refine bel_step ?_ (by with_reducible assumption)))

theorem R2_hull (a b : Rg) (w : World) :
    Calls Tryz.prog 81 #[.agg #[.int .i64 (a).lo, .int .i64 (a).hi], .agg #[.int .i64 (b).lo, .int .i64 (b).hi]] w fun e w' => e = .returned (.agg #[.int .i64 (hullS a b).lo, .int .i64 (hullS a b).hi]) ∧ Below w.heap.size w w' := by
  go_enter Tryz.func81, Tryz.ntmps81
  go_wp2_with fail
  all_goals
    refine bodyPost_ret (v := .agg #[.int .i64 (hullS a b).lo, .int .i64 (hullS a b).hi]) (by simp [results, Tryz.results81, go_sem, hullS]; omega) rfl ?_
    refine ⟨rfl, ?_⟩
    (repeat (first | with_reducible exact bel_refl _ | with_reducible refine bel_alloc ?_ _ | with_reducible refine bel_bw _ ?_ | with_reducible refine bel_drew ?_ | with_reducible refine bel_drewN _ ?_ | ((with_reducible refine bel_set ?_ ?_ _); rotate_left; focus (first | (simp; done) | omega | (simp; omega))) | refine bel_step ?_ (by with_reducible assumption)))

end Go.Proofs.YtbjdgaeikihjbaaGreat
