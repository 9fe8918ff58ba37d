/-
  hold: CheckWorst.
  Conditions: each theorem's own premises.
-/
import Derived.Test.YtbjdgaeikihjbaaLwst
namespace Go.Proofs.Ytbjdgaeikihjbaa
set_option linter.unusedSimpArgs false
set_option linter.unusedVariables false
open Go.RowKit
set_option maxRecDepth 100000
set_option maxHeartbeats 4000000
attribute [local go_sem] Instr.field asAgg Soft.upon Soft.BW.cell_if Soft.BW.frozen_if Soft.cell_alloc_if Soft.frozen_alloc_if

theorem hold_CheckWorst (h : Ho) (f : Fi) (u m : Int) (w : World) (hh : h.At w) :
    Calls Try.prog 41 #[.agg #[.int .i64 (h).id, .int .i64 ((h).along).lo, .int .i64 ((h).along).hi, .slice ((h).vol).p ((h).vol).n ((h).vol).c, .slice ((h).mom).p ((h).mom).n ((h).mom).c, .slice ((h).hei).p ((h).hei).n ((h).hei).c, .int .i64 ((h).tri).lo, .int .i64 ((h).tri).hi, .int .i64 ((h).unt).lo, .int .i64 ((h).unt).hi, .int .i64 ((h).v0).lo, .int .i64 ((h).v0).hi, .int .i64 ((h).h0).lo, .int .i64 ((h).h0).hi], .agg #[.int .i64 (f).hold, .int .i64 (f).state, .int .i64 ((f).ull).lo, .int .i64 ((f).ull).hi, .int .i64 ((f).den).lo, .int .i64 ((f).den).hi], .int .i64 u, .int .i64 m] w fun e w' => e = .returned (.int .i64 (chkS h f u m)) ∧ Below w.heap.size w w' := by
  have CW : Hid (∀ W, h.At W → Calls Try.prog 40 #[.agg #[.int .i64 (h).id, .int .i64 ((h).along).lo, .int .i64 ((h).along).hi, .slice ((h).vol).p ((h).vol).n ((h).vol).c, .slice ((h).mom).p ((h).mom).n ((h).mom).c, .slice ((h).hei).p ((h).hei).n ((h).hei).c, .int .i64 ((h).tri).lo, .int .i64 ((h).tri).hi, .int .i64 ((h).unt).lo, .int .i64 ((h).unt).hi, .int .i64 ((h).v0).lo, .int .i64 ((h).v0).hi, .int .i64 ((h).h0).lo, .int .i64 ((h).h0).hi], .agg #[.int .i64 (f).hold, .int .i64 (f).state, .int .i64 ((f).ull).lo, .int .i64 ((f).ull).hi, .int .i64 ((f).den).lo, .int .i64 ((f).den).hi]] W fun e w' => e = .returned (.tuple #[.int .i64 (wrsE h f).1, .int .i64 (wrsE h f).2, .int .i64 (fillErr h f)]) ∧ Below W.heap.size W w') := Lib.hid (fun W hW => hold_Worst h f W hW)
  have hm := hh.2.1
  have HCS : Hid (chkS h f u m = if fillErr h f = 0 then (if f.state = 3 then (if (f.ull.lo ≤ u ∧ u ≤ f.ull.hi) ∧ m = (wrsE h f).2 ∧ hiE h.mom.ps u = m then 0 else 1) else (if u = 0 ∧ m = (wrsE h f).2 then 0 else 1)) else fillErr h f) := Lib.hid rfl
  generalize wrsE h f = wx at *
  obtain ⟨wa, wm⟩ := wx
  dsimp only at *
  by_cases cf : fillErr h f = 0
  · have d0 : (fillErr h f != 0) = false := by rw [cf]; rfl
    by_cases h3 : f.state = 3
    · have d3 : (f.state != 3) = false := by rw [h3]; rfl
      by_cases c1 : f.ull.lo ≤ u ∧ u ≤ f.ull.hi
      · by_cases c2 : m = wm
        · have dm : (m != wm) = false := by rw [c2]; simp
          by_cases c3 : hiE h.mom.ps u = m
          · have HV := Lib.hid (show chkS h f u m = 0 by rw [HCS.out, if_pos cf, if_pos h3, if_pos ⟨c1, c2, c3⟩])
            have dh : ((atE h.mom.ps u).1.hi != m) = false := by rw [show (atE h.mom.ps u).1.hi = m from c3]; simp
            have HC1 := Lib.hid (decide_eq_true c1).symm
            clear cf h3 c1 c2 c3
            go_enter Try.func41, Try.ntmps41
            go_wp2_with (first | (go_at_call 40; (with_reducible refine (CW.out _ (by with_reducible repeat (first | exact hh | refine Ho.At.alloc ?_ _ | refine Ho.At.bw ?_ _ | refine Tk.At.alloc ?_ _ | refine Tk.At.bw ?_ _))).mono ?_); rintro e w_ ⟨rfl, hb_⟩; obtain ⟨y1, rfl⟩ := Soft.BW.mk hb_; clear hb_) | (go_at_call 88; (with_reducible refine (hold_isWithin _ _ _ _ true HC1.out).mono ?_); rintro e w_ ⟨rfl, hw_⟩; subst w_) | (go_at_call 86; (with_reducible refine (fix_At h.mom u _ (by repeat (first | exact hm | refine Tb.At.alloc ?_ _ | refine Tb.At.bw ?_ _))).mono ?_); rintro e w_ ⟨rfl, hb_⟩; obtain ⟨y2, rfl⟩ := Soft.BW.mk hb_; clear hb_))
            go_ret
            refine ⟨ret_int HV.out.symm, ?_⟩
            (repeat (first | with_reducible exact bel_refl _ | with_reducible refine bel_alloc ?_ _ | with_reducible refine bel_bw _ ?_ | with_reducible refine bel_drew ?_ | with_reducible refine bel_drewN _ ?_ | ((with_reducible refine bel_set ?_ ?_ _); rotate_left; focus (first | (simp; done) | omega | (simp; omega))) | refine bel_step ?_ (by with_reducible assumption)))
          · have HV := Lib.hid (show chkS h f u m = 1 by rw [HCS.out, if_pos cf, if_pos h3, if_neg (fun e => c3 e.2.2)])
            have dh : ((atE h.mom.ps u).1.hi != m) = true := bne_iff_ne.2 c3
            have HC1 := Lib.hid (decide_eq_true c1).symm
            clear cf h3 c1 c2 c3
            go_enter Try.func41, Try.ntmps41
            go_wp2_with (first | (go_at_call 40; (with_reducible refine (CW.out _ (by with_reducible repeat (first | exact hh | refine Ho.At.alloc ?_ _ | refine Ho.At.bw ?_ _ | refine Tk.At.alloc ?_ _ | refine Tk.At.bw ?_ _))).mono ?_); rintro e w_ ⟨rfl, hb_⟩; obtain ⟨y1, rfl⟩ := Soft.BW.mk hb_; clear hb_) | (go_at_call 88; (with_reducible refine (hold_isWithin _ _ _ _ true HC1.out).mono ?_); rintro e w_ ⟨rfl, hw_⟩; subst w_) | (go_at_call 86; (with_reducible refine (fix_At h.mom u _ (by repeat (first | exact hm | refine Tb.At.alloc ?_ _ | refine Tb.At.bw ?_ _))).mono ?_); rintro e w_ ⟨rfl, hb_⟩; obtain ⟨y2, rfl⟩ := Soft.BW.mk hb_; clear hb_))
            go_ret
            refine ⟨ret_int HV.out.symm, ?_⟩
            (repeat (first | with_reducible exact bel_refl _ | with_reducible refine bel_alloc ?_ _ | with_reducible refine bel_bw _ ?_ | with_reducible refine bel_drew ?_ | with_reducible refine bel_drewN _ ?_ | ((with_reducible refine bel_set ?_ ?_ _); rotate_left; focus (first | (simp; done) | omega | (simp; omega))) | refine bel_step ?_ (by with_reducible assumption)))
        · have dm : (m != wm) = true := bne_iff_ne.2 c2
          have HV := Lib.hid (show chkS h f u m = 1 by rw [HCS.out, if_pos cf, if_pos h3, if_neg (fun e => c2 e.2.1)])
          have HC1 := Lib.hid (decide_eq_true c1).symm
          clear cf h3 c1 c2
          go_enter Try.func41, Try.ntmps41
          go_wp2_with (first | (go_at_call 40; (with_reducible refine (CW.out _ (by with_reducible repeat (first | exact hh | refine Ho.At.alloc ?_ _ | refine Ho.At.bw ?_ _ | refine Tk.At.alloc ?_ _ | refine Tk.At.bw ?_ _))).mono ?_); rintro e w_ ⟨rfl, hb_⟩; obtain ⟨y1, rfl⟩ := Soft.BW.mk hb_; clear hb_) | (go_at_call 88; (with_reducible refine (hold_isWithin _ _ _ _ true HC1.out).mono ?_); rintro e w_ ⟨rfl, hw_⟩; subst w_))
          go_ret
          refine ⟨ret_int HV.out.symm, ?_⟩
          (repeat (first | with_reducible exact bel_refl _ | with_reducible refine bel_alloc ?_ _ | with_reducible refine bel_bw _ ?_ | with_reducible refine bel_drew ?_ | with_reducible refine bel_drewN _ ?_ | ((with_reducible refine bel_set ?_ ?_ _); rotate_left; focus (first | (simp; done) | omega | (simp; omega))) | refine bel_step ?_ (by with_reducible assumption)))
      · have HV := Lib.hid (show chkS h f u m = 1 by rw [HCS.out, if_pos cf, if_pos h3, if_neg (fun e => c1 e.1)])
        have HC1 := Lib.hid (decide_eq_false c1).symm
        clear cf h3 c1
        go_enter Try.func41, Try.ntmps41
        go_wp2_with (first | (go_at_call 40; (with_reducible refine (CW.out _ (by with_reducible repeat (first | exact hh | refine Ho.At.alloc ?_ _ | refine Ho.At.bw ?_ _ | refine Tk.At.alloc ?_ _ | refine Tk.At.bw ?_ _))).mono ?_); rintro e w_ ⟨rfl, hb_⟩; obtain ⟨y1, rfl⟩ := Soft.BW.mk hb_; clear hb_) | (go_at_call 88; (with_reducible refine (hold_isWithin _ _ _ _ false HC1.out).mono ?_); rintro e w_ ⟨rfl, hw_⟩; subst w_))
        go_ret
        refine ⟨ret_int HV.out.symm, ?_⟩
        (repeat (first | with_reducible exact bel_refl _ | with_reducible refine bel_alloc ?_ _ | with_reducible refine bel_bw _ ?_ | with_reducible refine bel_drew ?_ | with_reducible refine bel_drewN _ ?_ | ((with_reducible refine bel_set ?_ ?_ _); rotate_left; focus (first | (simp; done) | omega | (simp; omega))) | refine bel_step ?_ (by with_reducible assumption)))
    · have d3 : (f.state != 3) = true := bne_iff_ne.2 h3
      by_cases c1 : u = 0
      · have du : (u != 0) = false := by rw [c1]; rfl
        by_cases c2 : m = wm
        · have dm : (m != wm) = false := by rw [c2]; simp
          have HV := Lib.hid (show chkS h f u m = 0 by rw [HCS.out, if_pos cf, if_neg h3, if_pos ⟨c1, c2⟩])
          clear cf h3 c1 c2
          go_enter Try.func41, Try.ntmps41
          go_wp2_with (first | (go_at_call 40; (with_reducible refine (CW.out _ (by with_reducible repeat (first | exact hh | refine Ho.At.alloc ?_ _ | refine Ho.At.bw ?_ _ | refine Tk.At.alloc ?_ _ | refine Tk.At.bw ?_ _))).mono ?_); rintro e w_ ⟨rfl, hb_⟩; obtain ⟨y1, rfl⟩ := Soft.BW.mk hb_; clear hb_))
          go_ret
          refine ⟨ret_int HV.out.symm, ?_⟩
          (repeat (first | with_reducible exact bel_refl _ | with_reducible refine bel_alloc ?_ _ | with_reducible refine bel_bw _ ?_ | with_reducible refine bel_drew ?_ | with_reducible refine bel_drewN _ ?_ | ((with_reducible refine bel_set ?_ ?_ _); rotate_left; focus (first | (simp; done) | omega | (simp; omega))) | refine bel_step ?_ (by with_reducible assumption)))
        · have dm : (m != wm) = true := bne_iff_ne.2 c2
          have HV := Lib.hid (show chkS h f u m = 1 by rw [HCS.out, if_pos cf, if_neg h3, if_neg (fun e => c2 e.2)])
          clear cf h3 c1 c2
          go_enter Try.func41, Try.ntmps41
          go_wp2_with (first | (go_at_call 40; (with_reducible refine (CW.out _ (by with_reducible repeat (first | exact hh | refine Ho.At.alloc ?_ _ | refine Ho.At.bw ?_ _ | refine Tk.At.alloc ?_ _ | refine Tk.At.bw ?_ _))).mono ?_); rintro e w_ ⟨rfl, hb_⟩; obtain ⟨y1, rfl⟩ := Soft.BW.mk hb_; clear hb_))
          go_ret
          refine ⟨ret_int HV.out.symm, ?_⟩
          (repeat (first | with_reducible exact bel_refl _ | with_reducible refine bel_alloc ?_ _ | with_reducible refine bel_bw _ ?_ | with_reducible refine bel_drew ?_ | with_reducible refine bel_drewN _ ?_ | ((with_reducible refine bel_set ?_ ?_ _); rotate_left; focus (first | (simp; done) | omega | (simp; omega))) | refine bel_step ?_ (by with_reducible assumption)))
      · have du : (u != 0) = true := bne_iff_ne.2 c1
        have HV := Lib.hid (show chkS h f u m = 1 by rw [HCS.out, if_pos cf, if_neg h3, if_neg (fun e => c1 e.1)])
        clear cf h3 c1
        go_enter Try.func41, Try.ntmps41
        go_wp2_with (first | (go_at_call 40; (with_reducible refine (CW.out _ (by with_reducible repeat (first | exact hh | refine Ho.At.alloc ?_ _ | refine Ho.At.bw ?_ _ | refine Tk.At.alloc ?_ _ | refine Tk.At.bw ?_ _))).mono ?_); rintro e w_ ⟨rfl, hb_⟩; obtain ⟨y1, rfl⟩ := Soft.BW.mk hb_; clear hb_))
        go_ret
        refine ⟨ret_int HV.out.symm, ?_⟩
        (repeat (first | with_reducible exact bel_refl _ | with_reducible refine bel_alloc ?_ _ | with_reducible refine bel_bw _ ?_ | with_reducible refine bel_drew ?_ | with_reducible refine bel_drewN _ ?_ | ((with_reducible refine bel_set ?_ ?_ _); rotate_left; focus (first | (simp; done) | omega | (simp; omega))) | refine bel_step ?_ (by with_reducible assumption)))
  · have d0 : (fillErr h f != 0) = true := bne_iff_ne.2 cf
    have HV := Lib.hid (show chkS h f u m = fillErr h f by rw [HCS.out, if_neg cf])
    clear cf
    go_enter Try.func41, Try.ntmps41
    go_wp2_with (first | (go_at_call 40; (with_reducible refine (CW.out _ (by with_reducible repeat (first | exact hh | refine Ho.At.alloc ?_ _ | refine Ho.At.bw ?_ _ | refine Tk.At.alloc ?_ _ | refine Tk.At.bw ?_ _))).mono ?_); rintro e w_ ⟨rfl, hb_⟩; obtain ⟨y1, rfl⟩ := Soft.BW.mk hb_; clear hb_))
    go_ret
    refine ⟨ret_int HV.out.symm, ?_⟩
    (repeat (first | with_reducible exact bel_refl _ | with_reducible refine bel_alloc ?_ _ | with_reducible refine bel_bw _ ?_ | with_reducible refine bel_drew ?_ | with_reducible refine bel_drewN _ ?_ | ((with_reducible refine bel_set ?_ ?_ _); rotate_left; focus (first | (simp; done) | omega | (simp; omega))) | refine bel_step ?_ (by with_reducible assumption)))

end Go.Proofs.Ytbjdgaeikihjbaa
