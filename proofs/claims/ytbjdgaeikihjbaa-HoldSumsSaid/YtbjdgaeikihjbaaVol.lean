/-
  hold: down, up, weighed, filling, volume, moment, height, mass, heel, weight, told and what is told.
  Conditions: each theorem's own premises.
-/
import Derived.Test.YtbjdgaeikihjbaaLine
namespace Go.Proofs.Ytbjdgaeikihjbaa
set_option linter.unusedSimpArgs false
set_option linter.unusedVariables false
open Go.RowKit
set_option maxRecDepth 100000
set_option maxHeartbeats 1000000
attribute [local go_sem] Soft.upon Soft.BW.cell_if Soft.BW.frozen_if Soft.cell_alloc_if Soft.frozen_alloc_if

theorem hold_down (a b : Int) (w : World) (h1 : -9223372036854775807 ≤ a) (h2 : a ≤ 9223372036854775807) (hb : 1 ≤ b) :
    Calls Try.prog 115 #[.int .i64 a, .int .i64 b] w fun e w' => e = .returned (.int .i64 (a / b)) ∧ w' = w := by
  have hbd := tdiv_bd a b hb
  obtain ⟨r1, r2⟩ : -9223372036854775808 ≤ a.tdiv b - 1 ∧ a.tdiv b - 1 ≤ 9223372036854775807 := by omega
  clear hbd
  go_enter Try.func115, Try.ntmps115
  go_wp2
  all_goals
    go_ret
    refine ⟨ret_int ?_, rfl⟩
    first | exact (tdiv_neg a b hb (by assumption)).symm | exact (tdiv_pos a b hb (by assumption)).symm

theorem hold_up (a b : Int) (w : World) (h1 : -9223372036854775807 ≤ a) (h2 : a ≤ 9223372036854775807) (hb : 1 ≤ b) :
    Calls Try.prog 116 #[.int .i64 a, .int .i64 b] w fun e w' => e = .returned (.int .i64 (-(-a / b))) ∧ w' = w := by
  have hd : -9223372036854775807 ≤ -a / b ∧ -a / b ≤ 9223372036854775807 := by
    by_cases h : 0 ≤ -a
    · have h1 := Int.ediv_nonneg h (show 0 ≤ b by omega)
      have h2 := Int.ediv_le_self b h
      omega
    · have h1 := Int.ediv_lt_of_lt_mul (show 0 < b by omega) (show -a < 0 * b by omega)
      have h2 : -a ≤ -a / b := Int.le_ediv_of_mul_le (by omega) (by have := Int.mul_le_mul_of_nonneg_left hb (show 0 ≤ a by omega); rw [Int.neg_mul]; omega)
      omega
  obtain ⟨d1, d2⟩ := hd
  go_enter Try.func116, Try.ntmps116
  go_wp2_with (go_at_call 115; refine (hold_down _ _ _ (by omega) (by omega) (by omega)).mono ?_; rintro e w' ⟨rfl, rfl⟩)
  go_ret
  exact ⟨rfl, rfl⟩

/-- A range times a density, divided by 1000. -/
def weighS (v d : Rg) : Rg := ⟨v.lo * d.lo / 1000, -(-(v.hi * d.hi) / 1000)⟩

theorem hold_weighed (v d : Rg) (w : World) (hv : RgIn v (-1000000000) 1000000000) (hd : RgIn d 0 2000) :
    Calls Try.prog 105 #[.agg #[.int .i64 (v).lo, .int .i64 (v).hi], .agg #[.int .i64 (d).lo, .int .i64 (d).hi]] w fun e w' => e = .returned (.agg #[.int .i64 (weighS v d).lo, .int .i64 (weighS v d).hi]) ∧ Below w.heap.size w w' := by
  obtain ⟨a1, a2, a3⟩ := hv
  obtain ⟨b1, b2, b3⟩ := hd
  have m1 := mul_bd 1000000000 2000 2000000000000 (by decide) (show -1000000000 ≤ v.lo by omega) (show v.lo ≤ 1000000000 by omega) (show 0 ≤ d.lo by omega) (show d.lo ≤ 2000 by omega)
  have m2 := mul_bd 1000000000 2000 2000000000000 (by decide) (show -1000000000 ≤ v.hi by omega) (show v.hi ≤ 1000000000 by omega) (show 0 ≤ d.hi by omega) (show d.hi ≤ 2000 by omega)
  obtain ⟨m11, m12⟩ := m1
  obtain ⟨m21, m22⟩ := m2
  go_enter Try.func105, Try.ntmps105
  go_wp2_with fail
  (refine Soft.region0 [0, 1, 2, 3, 4, 5, 6, 7, 8, 9, 10, 11, 12] [13] (by kernel_rfl) (by kernel_rfl) (by kernel_rfl) (by kernel_rfl) ?_; change Soft.wpSoft _ _ _ _ _ [_, _, _, _, _, _, _, _, _, _, _, _, _] _; (repeat (refine Soft.soft_step (fun K hK => ?_); go_simp; (try go_bits); first | (refine hK _ ?_; clear hK K) | (apply Exists.intro; refine ⟨fun x => ?_, hK _ ?_⟩; (first | exact Calls.bel (hold_down (v.lo * d.lo) _ _ (by omega) (by omega) (by omega)) | exact Calls.bel (hold_up (v.hi * d.hi) _ _ (by omega) (by omega) (by omega))); clear hK K))); refine Soft.soft_nil ?_; intro xw; change wpList _ _ _ [_] _ _)
  go_wp2_with fail
  refine bodyPost_ret (v := .agg #[.int .i64 (weighS v d).lo, .int .i64 (weighS v d).hi]) (by simp [results, Try.results105, go_sem, weighS]) rfl ?_
  refine ⟨rfl, ?_⟩
  (repeat (first | with_reducible exact bel_refl _ | with_reducible refine bel_alloc ?_ _ | with_reducible refine bel_bw _ ?_ | with_reducible refine bel_drew ?_ | with_reducible refine bel_drewN _ ?_ | ((with_reducible refine bel_set ?_ ?_ _); rotate_left; focus (first | (simp; done) | omega | (simp; omega))) | refine bel_step ?_ (by with_reducible assumption)))

/-- What a fill has of two ways to say it. -/
def fillS (f : Fi) (filled : Rg) (ps : List Pt) : Rg := if f.state = 1 ∨ f.state = 2 then filled else if 3 ≤ f.state ∧ f.state ≤ 5 then (overE ps f.ull).1 else ⟨0, 0⟩

theorem hold_filling (h : Ho) (f : Fi) (filled : Rg) (t : Tb) (w : World) (ht : t.At w) :
    Calls Try.prog 114 #[.agg #[.int .i64 (h).id, .int .i64 ((h).along).lo, .int .i64 ((h).along).hi, .slice ((h).vol).p ((h).vol).n ((h).vol).c, .slice ((h).mom).p ((h).mom).n ((h).mom).c, .slice ((h).hei).p ((h).hei).n ((h).hei).c, .int .i64 ((h).tri).lo, .int .i64 ((h).tri).hi, .int .i64 ((h).unt).lo, .int .i64 ((h).unt).hi, .int .i64 ((h).v0).lo, .int .i64 ((h).v0).hi, .int .i64 ((h).h0).lo, .int .i64 ((h).h0).hi], .agg #[.int .i64 (f).hold, .int .i64 (f).state, .int .i64 ((f).ull).lo, .int .i64 ((f).ull).hi, .int .i64 ((f).den).lo, .int .i64 ((f).den).hi], .agg #[.int .i64 (filled).lo, .int .i64 (filled).hi], .agg #[.slice (t).p (t).n (t).c]] w fun e w' => e = .returned (.agg #[.int .i64 (fillS f filled t.ps).lo, .int .i64 (fillS f filled t.ps).hi]) ∧ Below w.heap.size w w' := by
  rcases st_class f.state with ⟨hc, m, hst⟩ | ⟨hc, m, hst⟩ | ⟨hc, m, hst⟩ | ⟨hc, hst⟩
  · have HST := Lib.hid hst; clear hst
    have HV := Lib.hid (show fillS f filled t.ps = ⟨0, 0⟩ by unfold fillS; rw [if_neg (by omega), if_neg (by omega)]); clear hc
    go_enter Try.func114, Try.ntmps114
    go_wp2_with (first | (go_at_call 70; (with_reducible refine (hold_stateOf f.state _ _ _ _ _ HST.out).mono ?_); rintro e w_ ⟨rfl, hb_⟩; obtain ⟨y1, rfl⟩ := Soft.BW.mk hb_; clear hb_) | (go_at_call 107; (with_reducible refine (hold_over t f.ull _ (by repeat (first | exact ht | refine Tb.At.alloc ?_ _ | refine Tb.At.bw ?_ _))).mono ?_); rintro e w_ ⟨rfl, hb_⟩; obtain ⟨y2, rfl⟩ := Soft.BW.mk hb_; clear hb_))
    rw [HV.out]
    refine bodyPost_ret (v := .agg #[.int .i64 ((⟨0, 0⟩ : Rg)).lo, .int .i64 ((⟨0, 0⟩ : Rg)).hi]) (by simp [results, Try.results114, go_sem]) rfl ?_
    refine ⟨rfl, ?_⟩
    (repeat (first | with_reducible exact bel_refl _ | with_reducible refine bel_alloc ?_ _ | with_reducible refine bel_bw _ ?_ | with_reducible refine bel_drew ?_ | with_reducible refine bel_drewN _ ?_ | ((with_reducible refine bel_set ?_ ?_ _); rotate_left; focus (first | (simp; done) | omega | (simp; omega))) | refine bel_step ?_ (by with_reducible assumption)))
  · have HST := Lib.hid hst; clear hst
    have HV := Lib.hid (show fillS f filled t.ps = filled by unfold fillS; rw [if_pos hc]); clear hc
    go_enter Try.func114, Try.ntmps114
    go_wp2_with (first | (go_at_call 70; (with_reducible refine (hold_stateOf f.state _ _ _ _ _ HST.out).mono ?_); rintro e w_ ⟨rfl, hb_⟩; obtain ⟨y1, rfl⟩ := Soft.BW.mk hb_; clear hb_) | (go_at_call 107; (with_reducible refine (hold_over t f.ull _ (by repeat (first | exact ht | refine Tb.At.alloc ?_ _ | refine Tb.At.bw ?_ _))).mono ?_); rintro e w_ ⟨rfl, hb_⟩; obtain ⟨y2, rfl⟩ := Soft.BW.mk hb_; clear hb_))
    rw [HV.out]
    refine bodyPost_ret (v := .agg #[.int .i64 (filled).lo, .int .i64 (filled).hi]) (by simp [results, Try.results114, go_sem]) rfl ?_
    refine ⟨rfl, ?_⟩
    (repeat (first | with_reducible exact bel_refl _ | with_reducible refine bel_alloc ?_ _ | with_reducible refine bel_bw _ ?_ | with_reducible refine bel_drew ?_ | with_reducible refine bel_drewN _ ?_ | ((with_reducible refine bel_set ?_ ?_ _); rotate_left; focus (first | (simp; done) | omega | (simp; omega))) | refine bel_step ?_ (by with_reducible assumption)))
  · have HST := Lib.hid hst; clear hst
    have HV := Lib.hid (show fillS f filled t.ps = (overE t.ps f.ull).1 by unfold fillS; rw [if_neg (by omega), if_pos hc]); clear hc
    go_enter Try.func114, Try.ntmps114
    go_wp2_with (first | (go_at_call 70; (with_reducible refine (hold_stateOf f.state _ _ _ _ _ HST.out).mono ?_); rintro e w_ ⟨rfl, hb_⟩; obtain ⟨y1, rfl⟩ := Soft.BW.mk hb_; clear hb_) | (go_at_call 107; (with_reducible refine (hold_over t f.ull _ (by repeat (first | exact ht | refine Tb.At.alloc ?_ _ | refine Tb.At.bw ?_ _))).mono ?_); rintro e w_ ⟨rfl, hb_⟩; obtain ⟨y2, rfl⟩ := Soft.BW.mk hb_; clear hb_))
    rw [HV.out]
    refine bodyPost_ret (v := .agg #[.int .i64 ((overE t.ps f.ull).1).lo, .int .i64 ((overE t.ps f.ull).1).hi]) (by simp [results, Try.results114, go_sem]) rfl ?_
    refine ⟨rfl, ?_⟩
    (repeat (first | with_reducible exact bel_refl _ | with_reducible refine bel_alloc ?_ _ | with_reducible refine bel_bw _ ?_ | with_reducible refine bel_drew ?_ | with_reducible refine bel_drewN _ ?_ | ((with_reducible refine bel_set ?_ ?_ _); rotate_left; focus (first | (simp; done) | omega | (simp; omega))) | refine bel_step ?_ (by with_reducible assumption)))
  · have HST := Lib.hid hst; clear hst
    have HV := Lib.hid (show fillS f filled t.ps = ⟨0, 0⟩ by unfold fillS; rw [if_neg (by omega), if_neg (by omega)]); clear hc
    go_enter Try.func114, Try.ntmps114
    go_wp2_with (first | (go_at_call 70; (with_reducible refine (hold_stateOf f.state _ _ _ _ _ HST.out).mono ?_); rintro e w_ ⟨rfl, hb_⟩; obtain ⟨y1, rfl⟩ := Soft.BW.mk hb_; clear hb_) | (go_at_call 107; (with_reducible refine (hold_over t f.ull _ (by repeat (first | exact ht | refine Tb.At.alloc ?_ _ | refine Tb.At.bw ?_ _))).mono ?_); rintro e w_ ⟨rfl, hb_⟩; obtain ⟨y2, rfl⟩ := Soft.BW.mk hb_; clear hb_))
    rw [HV.out]
    refine bodyPost_ret (v := .agg #[.int .i64 ((⟨0, 0⟩ : Rg)).lo, .int .i64 ((⟨0, 0⟩ : Rg)).hi]) (by simp [results, Try.results114, go_sem]) rfl ?_
    refine ⟨rfl, ?_⟩
    (repeat (first | with_reducible exact bel_refl _ | with_reducible refine bel_alloc ?_ _ | with_reducible refine bel_bw _ ?_ | with_reducible refine bel_drew ?_ | with_reducible refine bel_drewN _ ?_ | ((with_reducible refine bel_set ?_ ?_ _); rotate_left; focus (first | (simp; done) | omega | (simp; omega))) | refine bel_step ?_ (by with_reducible assumption)))


def volS (h : Ho) (f : Fi) : Rg := fillS f h.v0 h.vol.ps
def heightS (h : Ho) (f : Fi) : Rg := fillS f h.h0 h.hei.ps

theorem hold_volume (h : Ho) (f : Fi) (w : World) (hh : h.At w) :
    Calls Try.prog 71 #[.agg #[.int .i64 (h).id, .int .i64 ((h).along).lo, .int .i64 ((h).along).hi, .slice ((h).vol).p ((h).vol).n ((h).vol).c, .slice ((h).mom).p ((h).mom).n ((h).mom).c, .slice ((h).hei).p ((h).hei).n ((h).hei).c, .int .i64 ((h).tri).lo, .int .i64 ((h).tri).hi, .int .i64 ((h).unt).lo, .int .i64 ((h).unt).hi, .int .i64 ((h).v0).lo, .int .i64 ((h).v0).hi, .int .i64 ((h).h0).lo, .int .i64 ((h).h0).hi], .agg #[.int .i64 (f).hold, .int .i64 (f).state, .int .i64 ((f).ull).lo, .int .i64 ((f).ull).hi, .int .i64 ((f).den).lo, .int .i64 ((f).den).hi]] w fun e w' => e = .returned (.agg #[.int .i64 (volS h f).lo, .int .i64 (volS h f).hi]) ∧ Below w.heap.size w w' := by
  obtain ⟨hv, hm, hz⟩ := hh
  go_enter Try.func71, Try.ntmps71
  go_wp2_with (go_at_call 114; (with_reducible refine (hold_filling h f h.v0 h.vol _ (by repeat (first | exact hv | refine Tb.At.alloc ?_ _ | refine Tb.At.bw ?_ _))).mono ?_); rintro e w_ ⟨rfl, hb_⟩; obtain ⟨y1, rfl⟩ := Soft.BW.mk hb_; clear hb_)
  refine bodyPost_ret (v := .agg #[.int .i64 (volS h f).lo, .int .i64 (volS h f).hi]) (by simp [results, Try.results71, go_sem, volS]) rfl ?_
  refine ⟨rfl, ?_⟩
  (repeat (first | with_reducible exact bel_refl _ | with_reducible refine bel_alloc ?_ _ | with_reducible refine bel_bw _ ?_ | with_reducible refine bel_drew ?_ | with_reducible refine bel_drewN _ ?_ | ((with_reducible refine bel_set ?_ ?_ _); rotate_left; focus (first | (simp; done) | omega | (simp; omega))) | refine bel_step ?_ (by with_reducible assumption)))
theorem hold_height (h : Ho) (f : Fi) (w : World) (hh : h.At w) :
    Calls Try.prog 80 #[.agg #[.int .i64 (h).id, .int .i64 ((h).along).lo, .int .i64 ((h).along).hi, .slice ((h).vol).p ((h).vol).n ((h).vol).c, .slice ((h).mom).p ((h).mom).n ((h).mom).c, .slice ((h).hei).p ((h).hei).n ((h).hei).c, .int .i64 ((h).tri).lo, .int .i64 ((h).tri).hi, .int .i64 ((h).unt).lo, .int .i64 ((h).unt).hi, .int .i64 ((h).v0).lo, .int .i64 ((h).v0).hi, .int .i64 ((h).h0).lo, .int .i64 ((h).h0).hi], .agg #[.int .i64 (f).hold, .int .i64 (f).state, .int .i64 ((f).ull).lo, .int .i64 ((f).ull).hi, .int .i64 ((f).den).lo, .int .i64 ((f).den).hi]] w fun e w' => e = .returned (.agg #[.int .i64 (heightS h f).lo, .int .i64 (heightS h f).hi]) ∧ Below w.heap.size w w' := by
  obtain ⟨hv, hm, hz⟩ := hh
  go_enter Try.func80, Try.ntmps80
  go_wp2_with (go_at_call 114; (with_reducible refine (hold_filling h f h.h0 h.hei _ (by repeat (first | exact hz | refine Tb.At.alloc ?_ _ | refine Tb.At.bw ?_ _))).mono ?_); rintro e w_ ⟨rfl, hb_⟩; obtain ⟨y1, rfl⟩ := Soft.BW.mk hb_; clear hb_)
  refine bodyPost_ret (v := .agg #[.int .i64 (heightS h f).lo, .int .i64 (heightS h f).hi]) (by simp [results, Try.results80, go_sem, heightS]) rfl ?_
  refine ⟨rfl, ?_⟩
  (repeat (first | with_reducible exact bel_refl _ | with_reducible refine bel_alloc ?_ _ | with_reducible refine bel_bw _ ?_ | with_reducible refine bel_drew ?_ | with_reducible refine bel_drewN _ ?_ | ((with_reducible refine bel_set ?_ ?_ _); rotate_left; focus (first | (simp; done) | omega | (simp; omega))) | refine bel_step ?_ (by with_reducible assumption)))

end Go.Proofs.Ytbjdgaeikihjbaa
