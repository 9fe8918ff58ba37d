/-
  hold: place; the law's ullage.
  Conditions: each theorem's own premises.
-/
import Derived.Test.YtbjdgaeikihjbaaMom
import Derived.Test.YtbjdgaeikihjbaaTrut
import Derived.Test.YtbjdgaeikihjbaaNorm
namespace Go.Proofs.Ytbjdgaeikihjbaa
set_option linter.unusedSimpArgs false
set_option linter.unusedVariables false
open Go.RowKit
set_option maxRecDepth 100000
set_option maxHeartbeats 4000000
attribute [local go_sem] Instr.field asAgg Soft.upon Soft.BW.cell_if Soft.BW.frozen_if Soft.cell_alloc_if Soft.frozen_alloc_if

/-- The ullage of a fill, that of an empty or filled hold too. -/
def placeS (h : Ho) (f : Fi) : Rg := if f.state = 1 ∨ f.state = 2 then ⟨firstX h.vol.ps, firstX h.vol.ps⟩ else if 3 ≤ f.state ∧ f.state ≤ 5 then f.ull else ⟨lastX h.vol.ps, lastX h.vol.ps⟩


theorem hold_place (h : Ho) (f : Fi) (w : World) (hh : h.At w) (hok : HoldOk h) (hs : 0 ≤ f.state ∧ f.state ≤ 5) :
    Calls Try.prog 95 #[.agg #[.int .i64 (h).id, .int .i64 ((h).along).lo, .int .i64 ((h).along).hi, .slice ((h).vol).p ((h).vol).n ((h).vol).c, .slice ((h).mom).p ((h).mom).n ((h).mom).c, .slice ((h).hei).p ((h).hei).n ((h).hei).c, .int .i64 ((h).tri).lo, .int .i64 ((h).tri).hi, .int .i64 ((h).unt).lo, .int .i64 ((h).unt).hi, .int .i64 ((h).v0).lo, .int .i64 ((h).v0).hi, .int .i64 ((h).h0).lo, .int .i64 ((h).h0).hi], .agg #[.int .i64 (f).hold, .int .i64 (f).state, .int .i64 ((f).ull).lo, .int .i64 ((f).ull).hi, .int .i64 ((f).den).lo, .int .i64 ((f).den).hi]] w fun e w' => e = .returned (.agg #[.int .i64 (placeS h f).lo, .int .i64 (placeS h f).hi]) ∧ Below w.heap.size w w' := by
  have hv := hh.1
  have hn : 1 ≤ h.vol.n := by rw [← hv.1]; exact hok.tabs.1.ok.pos
  clear hok
  rcases st_class f.state with ⟨hc, m, hst⟩ | ⟨hc, m, hst⟩ | ⟨hc, m, hst⟩ | ⟨hc, hst⟩
  · have HST := Lib.hid hst; clear hst
    have HV := Lib.hid (show placeS h f = ⟨lastX h.vol.ps, lastX h.vol.ps⟩ by unfold placeS; rw [if_neg (by omega), if_neg (by omega)]); clear hc
    go_enter Try.func95, Try.ntmps95
    go_wp2_with (first | (go_at_call 101; (with_reducible refine (hold_domain h.vol _ (by repeat (first | exact hv | refine Tb.At.alloc ?_ _ | refine Tb.At.bw ?_ _)) hn).mono ?_); rintro e w_ ⟨rfl, hb_⟩; obtain ⟨y0, rfl⟩ := Soft.BW.mk hb_; clear hb_) | (go_at_call 70; (with_reducible refine (hold_stateOf f.state _ _ _ _ _ HST.out).mono ?_); rintro e w_ ⟨rfl, hb_⟩; obtain ⟨y1, rfl⟩ := Soft.BW.mk hb_; clear hb_))
    rw [HV.out]
    refine bodyPost_ret (v := .agg #[.int .i64 (lastX h.vol.ps), .int .i64 (lastX h.vol.ps)]) (by simp [results, Try.results95, go_sem]) rfl ?_
    refine ⟨rfl, ?_⟩
    (repeat (first | with_reducible exact bel_refl _ | with_reducible refine bel_alloc ?_ _ | with_reducible refine bel_bw _ ?_ | with_reducible refine bel_drew ?_ | with_reducible refine bel_drewN _ ?_ | ((with_reducible refine bel_set ?_ ?_ _); rotate_left; focus (first | (simp; done) | omega | (simp; omega))) | refine bel_step ?_ (by with_reducible assumption)))
  · have HST := Lib.hid hst; clear hst
    have HV := Lib.hid (show placeS h f = ⟨firstX h.vol.ps, firstX h.vol.ps⟩ by unfold placeS; rw [if_pos hc]); clear hc
    go_enter Try.func95, Try.ntmps95
    go_wp2_with (first | (go_at_call 101; (with_reducible refine (hold_domain h.vol _ (by repeat (first | exact hv | refine Tb.At.alloc ?_ _ | refine Tb.At.bw ?_ _)) hn).mono ?_); rintro e w_ ⟨rfl, hb_⟩; obtain ⟨y0, rfl⟩ := Soft.BW.mk hb_; clear hb_) | (go_at_call 70; (with_reducible refine (hold_stateOf f.state _ _ _ _ _ HST.out).mono ?_); rintro e w_ ⟨rfl, hb_⟩; obtain ⟨y1, rfl⟩ := Soft.BW.mk hb_; clear hb_))
    rw [HV.out]
    refine bodyPost_ret (v := .agg #[.int .i64 (firstX h.vol.ps), .int .i64 (firstX h.vol.ps)]) (by simp [results, Try.results95, go_sem]) rfl ?_
    refine ⟨rfl, ?_⟩
    (repeat (first | with_reducible exact bel_refl _ | with_reducible refine bel_alloc ?_ _ | with_reducible refine bel_bw _ ?_ | with_reducible refine bel_drew ?_ | with_reducible refine bel_drewN _ ?_ | ((with_reducible refine bel_set ?_ ?_ _); rotate_left; focus (first | (simp; done) | omega | (simp; omega))) | refine bel_step ?_ (by with_reducible assumption)))
  · have HST := Lib.hid hst; clear hst
    have HV := Lib.hid (show placeS h f = f.ull by unfold placeS; rw [if_neg (by omega), if_pos hc]); clear hc
    go_enter Try.func95, Try.ntmps95
    go_wp2_with (first | (go_at_call 101; (with_reducible refine (hold_domain h.vol _ (by repeat (first | exact hv | refine Tb.At.alloc ?_ _ | refine Tb.At.bw ?_ _)) hn).mono ?_); rintro e w_ ⟨rfl, hb_⟩; obtain ⟨y0, rfl⟩ := Soft.BW.mk hb_; clear hb_) | (go_at_call 70; (with_reducible refine (hold_stateOf f.state _ _ _ _ _ HST.out).mono ?_); rintro e w_ ⟨rfl, hb_⟩; obtain ⟨y1, rfl⟩ := Soft.BW.mk hb_; clear hb_))
    rw [HV.out]
    refine bodyPost_ret (v := .agg #[.int .i64 f.ull.lo, .int .i64 f.ull.hi]) (by simp [results, Try.results95, go_sem]) rfl ?_
    refine ⟨rfl, ?_⟩
    (repeat (first | with_reducible exact bel_refl _ | with_reducible refine bel_alloc ?_ _ | with_reducible refine bel_bw _ ?_ | with_reducible refine bel_drew ?_ | with_reducible refine bel_drewN _ ?_ | ((with_reducible refine bel_set ?_ ?_ _); rotate_left; focus (first | (simp; done) | omega | (simp; omega))) | refine bel_step ?_ (by with_reducible assumption)))
  · exact absurd hs hc

theorem L2_ullage (h : Ho) (f : Fi) (w : World) (hh : h.At w) (hok : HoldOk h) (hs : 0 ≤ f.state ∧ f.state ≤ 5) :
    Calls Try.prog 50 #[.agg #[.int .i64 (h).id, .int .i64 ((h).along).lo, .int .i64 ((h).along).hi, .slice ((h).vol).p ((h).vol).n ((h).vol).c, .slice ((h).mom).p ((h).mom).n ((h).mom).c, .slice ((h).hei).p ((h).hei).n ((h).hei).c, .int .i64 ((h).tri).lo, .int .i64 ((h).tri).hi, .int .i64 ((h).unt).lo, .int .i64 ((h).unt).hi, .int .i64 ((h).v0).lo, .int .i64 ((h).v0).hi, .int .i64 ((h).h0).lo, .int .i64 ((h).h0).hi], .agg #[.int .i64 (f).hold, .int .i64 (f).state, .int .i64 ((f).ull).lo, .int .i64 ((f).ull).hi, .int .i64 ((f).den).lo, .int .i64 ((f).den).hi]] w fun e w' => e = .returned (.agg #[.int .i64 (placeS h f).lo, .int .i64 (placeS h f).hi]) ∧ Below w.heap.size w w' := by
  have hv := hh.1
  have hn : 1 ≤ h.vol.n := by rw [← hv.1]; exact hok.tabs.1.ok.pos
  clear hok
  by_cases c0 : f.state = 0
  · have HV := Lib.hid (show placeS h f = ⟨lastX h.vol.ps, lastX h.vol.ps⟩ by unfold placeS; rw [if_neg (by omega), if_neg (by omega)])
    have d0 : (f.state == 0) = true := by rw [c0]; rfl
    clear c0 hs
    go_enter Try.func50, Try.ntmps50
    go_wp2_with fail
    (refine Soft.region0 [0, 1, 2, 3, 4, 5, 6] [7] (by kernel_rfl) (by kernel_rfl) (by kernel_rfl) (by kernel_rfl) ?_; change Soft.wpSoft _ _ _ _ _ [_, _, _, _, _, _, _] _; (repeat (refine Soft.soft_step (fun K hK => ?_); go_simp; (try go_bits); first | (refine hK _ ?_; clear hK K) | (apply Exists.intro; refine ⟨fun x => ?_, hK _ ?_⟩; ((go_at_call 18; exact R2_Last h.vol _ (by repeat (first | exact hv | refine Tb.At.alloc ?_ _ | refine Tb.At.bw ?_ _)) hn)); clear hK K))); refine Soft.soft_nil ?_; intro xw; change wpList _ _ _ [_] _ _)
    go_wp2_with fail
    rw [HV.out]
    refine bodyPost_ret (v := .agg #[.int .i64 (lastX h.vol.ps), .int .i64 (lastX h.vol.ps)]) (by simp [results, Try.results50, go_sem]) rfl ?_
    refine ⟨rfl, ?_⟩
    (repeat (first | with_reducible exact bel_refl _ | with_reducible refine bel_alloc ?_ _ | with_reducible refine bel_bw _ ?_ | with_reducible refine bel_drew ?_ | with_reducible refine bel_drewN _ ?_ | ((with_reducible refine bel_set ?_ ?_ _); rotate_left; focus (first | (simp; done) | omega | (simp; omega))) | refine bel_step ?_ (by with_reducible assumption)))
  · have d0 : (f.state == 0) = false := by rw [beq_eq_false_iff_ne]; exact c0
    by_cases c1 : 1 ≤ f.state ∧ f.state ≤ 2
    · have HV := Lib.hid (show placeS h f = ⟨firstX h.vol.ps, firstX h.vol.ps⟩ by unfold placeS; rw [if_pos (by omega)])
      have HC := Lib.hid (decide_eq_true c1).symm
      clear c0 c1 hs
      go_enter Try.func50, Try.ntmps50
      go_wp2_with ((go_at_call 100; (with_reducible refine (R2_Filled f.state _ true HC.out).mono ?_); rintro e w_ ⟨rfl, hw_⟩; subst w_))
      (refine Soft.region0 [0, 1, 2, 3, 4, 5, 6] [7] (by kernel_rfl) (by kernel_rfl) (by kernel_rfl) (by kernel_rfl) ?_; change Soft.wpSoft _ _ _ _ _ [_, _, _, _, _, _, _] _; (repeat (refine Soft.soft_step (fun K hK => ?_); go_simp; (try go_bits); first | (refine hK _ ?_; clear hK K) | (apply Exists.intro; refine ⟨fun x => ?_, hK _ ?_⟩; ((go_at_call 20; exact R2_First h.vol _ (by repeat (first | exact hv | refine Tb.At.alloc ?_ _ | refine Tb.At.bw ?_ _)) hn)); clear hK K))); refine Soft.soft_nil ?_; intro xw; change wpList _ _ _ [_] _ _)
      go_wp2_with fail
      rw [HV.out]
      refine bodyPost_ret (v := .agg #[.int .i64 (firstX h.vol.ps), .int .i64 (firstX h.vol.ps)]) (by simp [results, Try.results50, go_sem]) rfl ?_
      refine ⟨rfl, ?_⟩
      (repeat (first | with_reducible exact bel_refl _ | with_reducible refine bel_alloc ?_ _ | with_reducible refine bel_bw _ ?_ | with_reducible refine bel_drew ?_ | with_reducible refine bel_drewN _ ?_ | ((with_reducible refine bel_set ?_ ?_ _); rotate_left; focus (first | (simp; done) | omega | (simp; omega))) | refine bel_step ?_ (by with_reducible assumption)))
    · have HV := Lib.hid (show placeS h f = f.ull by unfold placeS; rw [if_neg (by omega), if_pos (by omega)])
      have HC := Lib.hid (decide_eq_false c1).symm
      clear c0 c1 hs
      go_enter Try.func50, Try.ntmps50
      go_wp2_with ((go_at_call 100; (with_reducible refine (R2_Filled f.state _ false HC.out).mono ?_); rintro e w_ ⟨rfl, hw_⟩; subst w_))
      rw [HV.out]
      refine bodyPost_ret (v := .agg #[.int .i64 f.ull.lo, .int .i64 f.ull.hi]) (by simp [results, Try.results50, go_sem]) rfl ?_
      refine ⟨rfl, ?_⟩
      (repeat (first | with_reducible exact bel_refl _ | with_reducible refine bel_alloc ?_ _ | with_reducible refine bel_bw _ ?_ | with_reducible refine bel_drew ?_ | with_reducible refine bel_drewN _ ?_ | ((with_reducible refine bel_set ?_ ?_ _); rotate_left; focus (first | (simp; done) | omega | (simp; omega))) | refine bel_step ?_ (by with_reducible assumption)))

end Go.Proofs.Ytbjdgaeikihjbaa
