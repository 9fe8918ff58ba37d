/-
  Settle, the program's and the reference's.
  Conditions: each theorem's own premises.
-/
import Derived.Test.YtbjdgaeikihjbaaRfl
import Derived.Test.YtbjdgaeikihjbaaNorm
namespace Go.Proofs.Ytbjdgaeikihjbaa
set_option linter.unusedSimpArgs false
set_option linter.unusedVariables false
open Go.RowKit
set_option maxRecDepth 100000
set_option maxHeartbeats 4000000
attribute [local go_sem] Instr.field asAgg Soft.upon Soft.BW.cell_if Soft.BW.frozen_if Soft.cell_alloc_if Soft.frozen_alloc_if

/-- The fill behind settling, and the error. -/
def setE (h : Ho) (f : Fi) (d : Int) : Fi × Int :=
  if fillErr h f ≠ 0 then (zeroF, fillErr h f) else if ¬(3 ≤ f.state ∧ f.state ≤ 5) then (zeroF, 22) else if ¬(0 ≤ d ∧ d ≤ 1000000) then (zeroF, 1)
  else (⟨f.hold, f.state, ⟨f.ull.lo, min (f.ull.hi + d) (lastX h.vol.ps)⟩, f.den⟩, 0)


theorem hold_Settle (h : Ho) (f : Fi) (d : Int) (w : World) (hh : h.At w) :
    Calls Try.prog 51 #[.agg #[.int .i64 (h).id, .int .i64 ((h).along).lo, .int .i64 ((h).along).hi, .slice ((h).vol).p ((h).vol).n ((h).vol).c, .slice ((h).mom).p ((h).mom).n ((h).mom).c, .slice ((h).hei).p ((h).hei).n ((h).hei).c, .int .i64 ((h).tri).lo, .int .i64 ((h).tri).hi, .int .i64 ((h).unt).lo, .int .i64 ((h).unt).hi, .int .i64 ((h).v0).lo, .int .i64 ((h).v0).hi, .int .i64 ((h).h0).lo, .int .i64 ((h).h0).hi], .agg #[.int .i64 (f).hold, .int .i64 (f).state, .int .i64 ((f).ull).lo, .int .i64 ((f).ull).hi, .int .i64 ((f).den).lo, .int .i64 ((f).den).hi], .int .i64 d] w fun e w' => e = .returned (.tuple #[.agg #[.int .i64 ((setE h f d).1).hold, .int .i64 ((setE h f d).1).state, .int .i64 (((setE h f d).1).ull).lo, .int .i64 (((setE h f d).1).ull).hi, .int .i64 (((setE h f d).1).den).lo, .int .i64 (((setE h f d).1).den).hi], .int .i64 (setE h f d).2]) ∧ Below w.heap.size w w' := by
  have hv := hh.1
  by_cases cf : fillErr h f = 0
  · obtain ⟨h0, h1⟩ := fill_ok cf
    have hn : 1 ≤ h.vol.n := by rw [← hv.1]; exact h0.tabs.1.ok.pos
    have hends := h0.tabs.1.ok.ends
    have dF : (fillErr h f != 0) = false := by rw [cf]; rfl
    have hst := state_in h1
    by_cases c3 : 3 ≤ f.state ∧ f.state ≤ 5
    · obtain ⟨_, ⟨u1, u2, u3⟩⟩ : 3 ≤ f.state ∧ isPart f.ull (firstX h.vol.ps) (lastX h.vol.ps) := by
        obtain ⟨_, ⟨e, _⟩ | ⟨e, _⟩ | ⟨e, hp, _⟩⟩ := h1
        · omega
        · omega
        · exact ⟨e.1, hp⟩
      obtain ⟨mm, hs⟩ : ∃ mm : FuncId, stIs f.state true false true (.func (.func mm) #[] #[]) := by
        rcases st_class f.state with ⟨e, mm, hs⟩ | ⟨e, mm, hs⟩ | ⟨_, mm, hs⟩ | ⟨hc, hs⟩
        · omega
        · omega
        · exact ⟨mm, hs⟩
        · exact absurd hst hc
      have HS := Lib.hid hs
      by_cases cd : 0 ≤ d ∧ d ≤ 1000000
      · have HV := Lib.hid (show setE h f d = (⟨f.hold, f.state, ⟨f.ull.lo, min (f.ull.hi + d) (lastX h.vol.ps)⟩, f.den⟩, 0) by unfold setE; rw [if_neg (by omega), if_neg (by omega), if_neg (by omega)])
        have HD := Lib.hid (decide_eq_true cd).symm
        obtain ⟨cd1, cd2⟩ := cd
        have CD := Lib.hid (fun W hW => hold_domain h.vol W hW hn)
        clear cf h0 h1 hst hs c3
        have b1 : 0 ≤ f.ull.hi ∧ f.ull.hi ≤ 1000000 := by omega
        obtain ⟨b11, b12⟩ := b1
        generalize lastX h.vol.ps = X at *
        generalize firstX h.vol.ps = X0 at *
        rcases Int.lt_or_le X (f.ull.hi + d) with e0 | e0
        · go_enter Try.func51, Try.ntmps51
          go_wp2_with (first | (go_at_call 68; (with_reducible refine (hold_CheckFill h f _ (by with_reducible repeat (first | exact hh | refine Ho.At.alloc ?_ _ | refine Ho.At.bw ?_ _ | refine Tk.At.alloc ?_ _ | refine Tk.At.bw ?_ _))).mono ?_); rintro e w_ ⟨rfl, hb_⟩; obtain ⟨y1, rfl⟩ := Soft.BW.mk hb_; clear hb_) | (go_at_call 70; (with_reducible refine (hold_stateOf f.state _ _ _ _ _ HS.out).mono ?_); rintro e w_ ⟨rfl, hb_⟩; obtain ⟨y2, rfl⟩ := Soft.BW.mk hb_; clear hb_) | (go_at_call 88; (with_reducible refine (hold_isWithin _ _ _ _ true HD.out).mono ?_); rintro e w_ ⟨rfl, hw_⟩; subst w_) | (go_at_call 101; (with_reducible refine (CD.out _ (by repeat (first | exact hv | refine Tb.At.alloc ?_ _ | refine Tb.At.bw ?_ _))).mono ?_); rintro e w_ ⟨rfl, hb_⟩; obtain ⟨y3, rfl⟩ := Soft.BW.mk hb_; clear hb_))
          rw [HV.out]
          refine bodyPost_ret (v := .tuple #[.agg #[.int .i64 f.hold, .int .i64 f.state, .int .i64 f.ull.lo, .int .i64 (min (f.ull.hi + d) X), .int .i64 f.den.lo, .int .i64 f.den.hi], .int .i64 0]) (by simp [results, Try.results51, go_sem]; omega) rfl ?_
          refine ⟨rfl, ?_⟩
          (repeat (first | with_reducible exact bel_refl _ | with_reducible refine bel_alloc ?_ _ | with_reducible refine bel_bw _ ?_ | with_reducible refine bel_drew ?_ | with_reducible refine bel_drewN _ ?_ | ((with_reducible refine bel_set ?_ ?_ _); rotate_left; focus (first | (simp; done) | omega | (simp; omega))) | refine bel_step ?_ (by with_reducible assumption)))
        · go_enter Try.func51, Try.ntmps51
          go_wp2_with (first | (go_at_call 68; (with_reducible refine (hold_CheckFill h f _ (by with_reducible repeat (first | exact hh | refine Ho.At.alloc ?_ _ | refine Ho.At.bw ?_ _ | refine Tk.At.alloc ?_ _ | refine Tk.At.bw ?_ _))).mono ?_); rintro e w_ ⟨rfl, hb_⟩; obtain ⟨y1, rfl⟩ := Soft.BW.mk hb_; clear hb_) | (go_at_call 70; (with_reducible refine (hold_stateOf f.state _ _ _ _ _ HS.out).mono ?_); rintro e w_ ⟨rfl, hb_⟩; obtain ⟨y2, rfl⟩ := Soft.BW.mk hb_; clear hb_) | (go_at_call 88; (with_reducible refine (hold_isWithin _ _ _ _ true HD.out).mono ?_); rintro e w_ ⟨rfl, hw_⟩; subst w_) | (go_at_call 101; (with_reducible refine (CD.out _ (by repeat (first | exact hv | refine Tb.At.alloc ?_ _ | refine Tb.At.bw ?_ _))).mono ?_); rintro e w_ ⟨rfl, hb_⟩; obtain ⟨y3, rfl⟩ := Soft.BW.mk hb_; clear hb_))
          rw [HV.out]
          refine bodyPost_ret (v := .tuple #[.agg #[.int .i64 f.hold, .int .i64 f.state, .int .i64 f.ull.lo, .int .i64 (min (f.ull.hi + d) X), .int .i64 f.den.lo, .int .i64 f.den.hi], .int .i64 0]) (by simp [results, Try.results51, go_sem]; omega) rfl ?_
          refine ⟨rfl, ?_⟩
          (repeat (first | with_reducible exact bel_refl _ | with_reducible refine bel_alloc ?_ _ | with_reducible refine bel_bw _ ?_ | with_reducible refine bel_drew ?_ | with_reducible refine bel_drewN _ ?_ | ((with_reducible refine bel_set ?_ ?_ _); rotate_left; focus (first | (simp; done) | omega | (simp; omega))) | refine bel_step ?_ (by with_reducible assumption)))
      · have HV := Lib.hid (show setE h f d = (zeroF, 1) by unfold setE; rw [if_neg (by omega), if_neg (by omega), if_pos cd])
        have HD := Lib.hid (decide_eq_false cd).symm
        clear cf h0 h1 hst hs c3 cd
        go_enter Try.func51, Try.ntmps51
        go_wp2_with (first | (go_at_call 68; (with_reducible refine (hold_CheckFill h f _ (by with_reducible repeat (first | exact hh | refine Ho.At.alloc ?_ _ | refine Ho.At.bw ?_ _ | refine Tk.At.alloc ?_ _ | refine Tk.At.bw ?_ _))).mono ?_); rintro e w_ ⟨rfl, hb_⟩; obtain ⟨y1, rfl⟩ := Soft.BW.mk hb_; clear hb_) | (go_at_call 70; (with_reducible refine (hold_stateOf f.state _ _ _ _ _ HS.out).mono ?_); rintro e w_ ⟨rfl, hb_⟩; obtain ⟨y2, rfl⟩ := Soft.BW.mk hb_; clear hb_) | (go_at_call 88; (with_reducible refine (hold_isWithin _ _ _ _ false HD.out).mono ?_); rintro e w_ ⟨rfl, hw_⟩; subst w_))
        rw [HV.out]
        refine bodyPost_ret (v := .tuple #[.agg #[.int .i64 (zeroF).hold, .int .i64 (zeroF).state, .int .i64 ((zeroF).ull).lo, .int .i64 ((zeroF).ull).hi, .int .i64 ((zeroF).den).lo, .int .i64 ((zeroF).den).hi], .int .i64 1]) (by simp [results, Try.results51, go_sem, zeroF]) rfl ?_
        refine ⟨rfl, ?_⟩
        (repeat (first | with_reducible exact bel_refl _ | with_reducible refine bel_alloc ?_ _ | with_reducible refine bel_bw _ ?_ | with_reducible refine bel_drew ?_ | with_reducible refine bel_drewN _ ?_ | ((with_reducible refine bel_set ?_ ?_ _); rotate_left; focus (first | (simp; done) | omega | (simp; omega))) | refine bel_step ?_ (by with_reducible assumption)))
    · have HV := Lib.hid (show setE h f d = (zeroF, 22) by unfold setE; rw [if_neg (by omega), if_pos c3])
      obtain ⟨fl, mm, hs⟩ : ∃ fl, ∃ mm : FuncId, stIs f.state true fl false (.func (.func mm) #[] #[]) := by
        rcases st_class f.state with ⟨_, mm, hs⟩ | ⟨_, mm, hs⟩ | ⟨e, mm, hs⟩ | ⟨hc, hs⟩
        · exact ⟨_, mm, hs⟩
        · exact ⟨_, mm, hs⟩
        · exact absurd e c3
        · exact absurd hst hc
      have HS := Lib.hid hs
      clear cf h0 h1 hst hs c3 hends
      go_enter Try.func51, Try.ntmps51
      go_wp2_with (first | (go_at_call 68; (with_reducible refine (hold_CheckFill h f _ (by with_reducible repeat (first | exact hh | refine Ho.At.alloc ?_ _ | refine Ho.At.bw ?_ _ | refine Tk.At.alloc ?_ _ | refine Tk.At.bw ?_ _))).mono ?_); rintro e w_ ⟨rfl, hb_⟩; obtain ⟨y1, rfl⟩ := Soft.BW.mk hb_; clear hb_) | (go_at_call 70; (with_reducible refine (hold_stateOf f.state _ _ _ _ _ HS.out).mono ?_); rintro e w_ ⟨rfl, hb_⟩; obtain ⟨y2, rfl⟩ := Soft.BW.mk hb_; clear hb_))
      rw [HV.out]
      refine bodyPost_ret (v := .tuple #[.agg #[.int .i64 (zeroF).hold, .int .i64 (zeroF).state, .int .i64 ((zeroF).ull).lo, .int .i64 ((zeroF).ull).hi, .int .i64 ((zeroF).den).lo, .int .i64 ((zeroF).den).hi], .int .i64 22]) (by simp [results, Try.results51, go_sem, zeroF]) rfl ?_
      refine ⟨rfl, ?_⟩
      (repeat (first | with_reducible exact bel_refl _ | with_reducible refine bel_alloc ?_ _ | with_reducible refine bel_bw _ ?_ | with_reducible refine bel_drew ?_ | with_reducible refine bel_drewN _ ?_ | ((with_reducible refine bel_set ?_ ?_ _); rotate_left; focus (first | (simp; done) | omega | (simp; omega))) | refine bel_step ?_ (by with_reducible assumption)))
  · have HV := Lib.hid (show setE h f d = (zeroF, fillErr h f) by unfold setE; rw [if_pos cf])
    have dF : (fillErr h f != 0) = true := bne_iff_ne.2 cf
    clear cf
    go_enter Try.func51, Try.ntmps51
    go_wp2_with (first | (go_at_call 68; (with_reducible refine (hold_CheckFill h f _ (by with_reducible repeat (first | exact hh | refine Ho.At.alloc ?_ _ | refine Ho.At.bw ?_ _ | refine Tk.At.alloc ?_ _ | refine Tk.At.bw ?_ _))).mono ?_); rintro e w_ ⟨rfl, hb_⟩; obtain ⟨y1, rfl⟩ := Soft.BW.mk hb_; clear hb_))
    rw [HV.out]
    refine bodyPost_ret (v := .tuple #[.agg #[.int .i64 (zeroF).hold, .int .i64 (zeroF).state, .int .i64 ((zeroF).ull).lo, .int .i64 ((zeroF).ull).hi, .int .i64 ((zeroF).den).lo, .int .i64 ((zeroF).den).hi], .int .i64 (fillErr h f)]) (by simp [results, Try.results51, go_sem, zeroF]) rfl ?_
    refine ⟨rfl, ?_⟩
    (repeat (first | with_reducible exact bel_refl _ | with_reducible refine bel_alloc ?_ _ | with_reducible refine bel_bw _ ?_ | with_reducible refine bel_drew ?_ | with_reducible refine bel_drewN _ ?_ | ((with_reducible refine bel_set ?_ ?_ _); rotate_left; focus (first | (simp; done) | omega | (simp; omega))) | refine bel_step ?_ (by with_reducible assumption)))

theorem R2_Settle (h : Ho) (f : Fi) (d : Int) (w : World) (hh : h.At w) :
    Calls Try.prog 52 #[.agg #[.int .i64 (h).id, .int .i64 ((h).along).lo, .int .i64 ((h).along).hi, .slice ((h).vol).p ((h).vol).n ((h).vol).c, .slice ((h).mom).p ((h).mom).n ((h).mom).c, .slice ((h).hei).p ((h).hei).n ((h).hei).c, .int .i64 ((h).tri).lo, .int .i64 ((h).tri).hi, .int .i64 ((h).unt).lo, .int .i64 ((h).unt).hi, .int .i64 ((h).v0).lo, .int .i64 ((h).v0).hi, .int .i64 ((h).h0).lo, .int .i64 ((h).h0).hi], .agg #[.int .i64 (f).hold, .int .i64 (f).state, .int .i64 ((f).ull).lo, .int .i64 ((f).ull).hi, .int .i64 ((f).den).lo, .int .i64 ((f).den).hi], .int .i64 d] w fun e w' => e = .returned (.tuple #[.agg #[.int .i64 ((setE h f d).1).hold, .int .i64 ((setE h f d).1).state, .int .i64 (((setE h f d).1).ull).lo, .int .i64 (((setE h f d).1).ull).hi, .int .i64 (((setE h f d).1).den).lo, .int .i64 (((setE h f d).1).den).hi], .int .i64 (setE h f d).2]) ∧ Below w.heap.size w w' := by
  have hv := hh.1
  have CCF := Lib.hid (fun W hW => R2_CheckFill h f W hW)
  by_cases cf : fillErr h f = 0
  · obtain ⟨h0, h1⟩ := fill_ok cf
    have hn : 1 ≤ h.vol.n := by rw [← hv.1]; exact h0.tabs.1.ok.pos
    have hends := h0.tabs.1.ok.ends
    rw [cf] at CCF
    by_cases c3 : 3 ≤ f.state ∧ f.state ≤ 5
    · obtain ⟨_, ⟨u1, u2, u3⟩⟩ : 3 ≤ f.state ∧ isPart f.ull (firstX h.vol.ps) (lastX h.vol.ps) := by
        obtain ⟨_, ⟨e, _⟩ | ⟨e, _⟩ | ⟨e, hp, _⟩⟩ := h1
        · omega
        · omega
        · exact ⟨e.1, hp⟩
      have HS := Lib.hid (decide_eq_true c3).symm
      by_cases cd : 0 ≤ d ∧ d ≤ 1000000
      · have HV := Lib.hid (show setE h f d = (⟨f.hold, f.state, ⟨f.ull.lo, min (f.ull.hi + d) (lastX h.vol.ps)⟩, f.den⟩, 0) by unfold setE; rw [if_neg (by omega), if_neg (by omega), if_neg (by omega)])
        have HD := Lib.hid (decide_eq_true cd).symm
        obtain ⟨cd1, cd2⟩ := cd
        have CL := Lib.hid (fun W hW => R2_Last h.vol W hW hn)
        clear cf h0 h1 c3
        have b1 : 0 ≤ f.ull.hi ∧ f.ull.hi ≤ 1000000 := by omega
        obtain ⟨b11, b12⟩ := b1
        generalize lastX h.vol.ps = X at *
        generalize firstX h.vol.ps = X0 at *
        rcases Int.lt_or_le X (f.ull.hi + d) with e0 | e0
        · have HM := Lib.hid (show min (f.ull.hi + d) X = X by omega)
          go_enter Try.func52, Try.ntmps52
          go_wp2_with (first | (go_at_call 96; (with_reducible refine (CCF.out _ (by with_reducible repeat (first | exact hh | refine Ho.At.alloc ?_ _ | refine Ho.At.bw ?_ _ | refine Tk.At.alloc ?_ _ | refine Tk.At.bw ?_ _))).mono ?_); rintro e w_ ⟨rfl, hb_⟩; obtain ⟨y1, rfl⟩ := Soft.BW.mk hb_; clear hb_) | (go_at_call 28; (with_reducible refine (R2_Free f.state _ true HS.out).mono ?_); rintro e w_ ⟨rfl, hw_⟩; subst w_) | (go_at_call 75; (with_reducible refine (R2_between _ _ _ _ true HD.out).mono ?_); rintro e w_ ⟨rfl, hw_⟩; subst w_))
          (refine Soft.region0 [0, 1, 2, 3, 4, 5, 6, 7, 8, 9, 10] [11] (by kernel_rfl) (by kernel_rfl) (by kernel_rfl) (by kernel_rfl) ?_; change Soft.wpSoft _ _ _ _ _ [_, _, _, _, _, _, _, _, _, _, _] _; (repeat (refine Soft.soft_step (fun K hK => ?_); go_simp; (try go_bits); first | (refine hK _ ?_; clear hK K) | (apply Exists.intro; refine ⟨fun x => ?_, hK _ ?_⟩; ((go_at_call 18; exact CL.out _ (by repeat (first | exact hv | refine Tb.At.alloc ?_ _ | refine Tb.At.bw ?_ _)))); clear hK K))); refine Soft.soft_nil ?_; intro xw; change wpList _ _ _ [_] _ _)
          change wpList _ _ _ [_] _ _
          go_wp2_with fail
          rw [HV.out, HM.out]
          refine bodyPost_ret (v := .tuple #[.agg #[.int .i64 f.hold, .int .i64 f.state, .int .i64 f.ull.lo, .int .i64 X, .int .i64 f.den.lo, .int .i64 f.den.hi], .int .i64 0]) (by simp [results, Try.results52, go_sem]) rfl ?_
          refine ⟨rfl, ?_⟩
          (repeat (first | with_reducible exact bel_refl _ | with_reducible refine bel_alloc ?_ _ | with_reducible refine bel_bw _ ?_ | with_reducible refine bel_drew ?_ | with_reducible refine bel_drewN _ ?_ | ((with_reducible refine bel_set ?_ ?_ _); rotate_left; focus (first | (simp; done) | omega | (simp; omega))) | refine bel_step ?_ (by with_reducible assumption)))
        · have HM := Lib.hid (show min (f.ull.hi + d) X = f.ull.hi + d by omega)
          go_enter Try.func52, Try.ntmps52
          go_wp2_with (first | (go_at_call 96; (with_reducible refine (CCF.out _ (by with_reducible repeat (first | exact hh | refine Ho.At.alloc ?_ _ | refine Ho.At.bw ?_ _ | refine Tk.At.alloc ?_ _ | refine Tk.At.bw ?_ _))).mono ?_); rintro e w_ ⟨rfl, hb_⟩; obtain ⟨y1, rfl⟩ := Soft.BW.mk hb_; clear hb_) | (go_at_call 28; (with_reducible refine (R2_Free f.state _ true HS.out).mono ?_); rintro e w_ ⟨rfl, hw_⟩; subst w_) | (go_at_call 75; (with_reducible refine (R2_between _ _ _ _ true HD.out).mono ?_); rintro e w_ ⟨rfl, hw_⟩; subst w_))
          (refine Soft.region0 [0, 1, 2, 3, 4, 5, 6, 7, 8, 9, 10] [11] (by kernel_rfl) (by kernel_rfl) (by kernel_rfl) (by kernel_rfl) ?_; change Soft.wpSoft _ _ _ _ _ [_, _, _, _, _, _, _, _, _, _, _] _; (repeat (refine Soft.soft_step (fun K hK => ?_); go_simp; (try go_bits); first | (refine hK _ ?_; clear hK K) | (apply Exists.intro; refine ⟨fun x => ?_, hK _ ?_⟩; ((go_at_call 18; exact CL.out _ (by repeat (first | exact hv | refine Tb.At.alloc ?_ _ | refine Tb.At.bw ?_ _)))); clear hK K))); refine Soft.soft_nil ?_; intro xw; change wpList _ _ _ [_] _ _)
          change wpList _ _ _ [_] _ _
          go_wp2_with fail
          rw [HV.out, HM.out]
          refine bodyPost_ret (v := .tuple #[.agg #[.int .i64 f.hold, .int .i64 f.state, .int .i64 f.ull.lo, .int .i64 (f.ull.hi + d), .int .i64 f.den.lo, .int .i64 f.den.hi], .int .i64 0]) (by simp [results, Try.results52, go_sem]) rfl ?_
          refine ⟨rfl, ?_⟩
          (repeat (first | with_reducible exact bel_refl _ | with_reducible refine bel_alloc ?_ _ | with_reducible refine bel_bw _ ?_ | with_reducible refine bel_drew ?_ | with_reducible refine bel_drewN _ ?_ | ((with_reducible refine bel_set ?_ ?_ _); rotate_left; focus (first | (simp; done) | omega | (simp; omega))) | refine bel_step ?_ (by with_reducible assumption)))
      · have HV := Lib.hid (show setE h f d = (zeroF, 1) by unfold setE; rw [if_neg (by omega), if_neg (by omega), if_pos cd])
        have HD := Lib.hid (decide_eq_false cd).symm
        clear cf h0 h1 c3 cd
        go_enter Try.func52, Try.ntmps52
        go_wp2_with (first | (go_at_call 96; (with_reducible refine (CCF.out _ (by with_reducible repeat (first | exact hh | refine Ho.At.alloc ?_ _ | refine Ho.At.bw ?_ _ | refine Tk.At.alloc ?_ _ | refine Tk.At.bw ?_ _))).mono ?_); rintro e w_ ⟨rfl, hb_⟩; obtain ⟨y1, rfl⟩ := Soft.BW.mk hb_; clear hb_) | (go_at_call 28; (with_reducible refine (R2_Free f.state _ true HS.out).mono ?_); rintro e w_ ⟨rfl, hw_⟩; subst w_) | (go_at_call 75; (with_reducible refine (R2_between _ _ _ _ false HD.out).mono ?_); rintro e w_ ⟨rfl, hw_⟩; subst w_))
        rw [HV.out]
        refine bodyPost_ret (v := .tuple #[.agg #[.int .i64 (zeroF).hold, .int .i64 (zeroF).state, .int .i64 ((zeroF).ull).lo, .int .i64 ((zeroF).ull).hi, .int .i64 ((zeroF).den).lo, .int .i64 ((zeroF).den).hi], .int .i64 1]) (by simp [results, Try.results52, go_sem, zeroF]) rfl ?_
        refine ⟨rfl, ?_⟩
        (repeat (first | with_reducible exact bel_refl _ | with_reducible refine bel_alloc ?_ _ | with_reducible refine bel_bw _ ?_ | with_reducible refine bel_drew ?_ | with_reducible refine bel_drewN _ ?_ | ((with_reducible refine bel_set ?_ ?_ _); rotate_left; focus (first | (simp; done) | omega | (simp; omega))) | refine bel_step ?_ (by with_reducible assumption)))
    · have HV := Lib.hid (show setE h f d = (zeroF, 22) by unfold setE; rw [if_neg (by omega), if_pos c3])
      have HS := Lib.hid (decide_eq_false c3).symm
      clear cf h0 h1 c3 hends
      go_enter Try.func52, Try.ntmps52
      go_wp2_with (first | (go_at_call 96; (with_reducible refine (CCF.out _ (by with_reducible repeat (first | exact hh | refine Ho.At.alloc ?_ _ | refine Ho.At.bw ?_ _ | refine Tk.At.alloc ?_ _ | refine Tk.At.bw ?_ _))).mono ?_); rintro e w_ ⟨rfl, hb_⟩; obtain ⟨y1, rfl⟩ := Soft.BW.mk hb_; clear hb_) | (go_at_call 28; (with_reducible refine (R2_Free f.state _ false HS.out).mono ?_); rintro e w_ ⟨rfl, hw_⟩; subst w_))
      rw [HV.out]
      refine bodyPost_ret (v := .tuple #[.agg #[.int .i64 (zeroF).hold, .int .i64 (zeroF).state, .int .i64 ((zeroF).ull).lo, .int .i64 ((zeroF).ull).hi, .int .i64 ((zeroF).den).lo, .int .i64 ((zeroF).den).hi], .int .i64 22]) (by simp [results, Try.results52, go_sem, zeroF]) rfl ?_
      refine ⟨rfl, ?_⟩
      (repeat (first | with_reducible exact bel_refl _ | with_reducible refine bel_alloc ?_ _ | with_reducible refine bel_bw _ ?_ | with_reducible refine bel_drew ?_ | with_reducible refine bel_drewN _ ?_ | ((with_reducible refine bel_set ?_ ?_ _); rotate_left; focus (first | (simp; done) | omega | (simp; omega))) | refine bel_step ?_ (by with_reducible assumption)))
  · have HV := Lib.hid (show setE h f d = (zeroF, fillErr h f) by unfold setE; rw [if_pos cf])
    have dF : (fillErr h f != 0) = true := bne_iff_ne.2 cf
    clear cf
    generalize fillErr h f = E at *
    go_enter Try.func52, Try.ntmps52
    go_wp2_with (first | (go_at_call 96; (with_reducible refine (CCF.out _ (by with_reducible repeat (first | exact hh | refine Ho.At.alloc ?_ _ | refine Ho.At.bw ?_ _ | refine Tk.At.alloc ?_ _ | refine Tk.At.bw ?_ _))).mono ?_); rintro e w_ ⟨rfl, hb_⟩; obtain ⟨y1, rfl⟩ := Soft.BW.mk hb_; clear hb_))
    rw [HV.out]
    refine bodyPost_ret (v := .tuple #[.agg #[.int .i64 (zeroF).hold, .int .i64 (zeroF).state, .int .i64 ((zeroF).ull).lo, .int .i64 ((zeroF).ull).hi, .int .i64 ((zeroF).den).lo, .int .i64 ((zeroF).den).hi], .int .i64 E]) (by simp [results, Try.results52, go_sem, zeroF]) rfl ?_
    refine ⟨rfl, ?_⟩
    (repeat (first | with_reducible exact bel_refl _ | with_reducible refine bel_alloc ?_ _ | with_reducible refine bel_bw _ ?_ | with_reducible refine bel_drew ?_ | with_reducible refine bel_drewN _ ?_ | ((with_reducible refine bel_set ?_ ?_ _); rotate_left; focus (first | (simp; done) | omega | (simp; omega))) | refine bel_step ?_ (by with_reducible assumption)))

end Go.Proofs.Ytbjdgaeikihjbaa
