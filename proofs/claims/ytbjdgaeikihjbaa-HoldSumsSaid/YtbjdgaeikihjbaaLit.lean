/-
  hold: litres, checkMass, Litres, hull, plus.
  Conditions: each theorem's own premises.
-/
import Derived.Test.YtbjdgaeikihjbaaVol
namespace Go.Proofs.Ytbjdgaeikihjbaa
set_option linter.unusedSimpArgs false
set_option linter.unusedVariables false
open Go.RowKit
set_option maxRecDepth 100000
set_option maxHeartbeats 1000000
attribute [local go_sem] Instr.field asAgg Soft.upon Soft.BW.cell_if Soft.BW.frozen_if Soft.cell_alloc_if Soft.frozen_alloc_if

def litLo (m : Int) (d : Rg) : Int := 1000 * m / (if m < 0 then d.lo else d.hi)
def litHi (m : Int) (d : Rg) : Int := -(-(1000 * m) / (if m < 0 then d.hi else d.lo))
/-- The litres of a mass. -/
def litS (m d : Rg) : Rg := ⟨litLo m.lo d, litHi m.hi d⟩

theorem hold_litres (m d : Rg) (w : World) (hm : rangeErr m = 0) (hd : isDen d) :
    Calls Try.prog 72 #[.agg #[.int .i64 (m).lo, .int .i64 (m).hi], .agg #[.int .i64 (d).lo, .int .i64 (d).hi]] w fun e w' => e = .returned (.agg #[.int .i64 (litS m d).lo, .int .i64 (litS m d).hi]) ∧ Below w.heap.size w w' := by
  obtain ⟨b1, b2, b3⟩ := hd
  obtain ⟨_, m1, m2, m3⟩ | ⟨h, _⟩ := rangeErr_cases m
  · clear hm
    by_cases c1 : m.lo < 0
    · have E1 := Lib.hid (show litLo m.lo d = 1000 * m.lo / d.lo by unfold litLo; rw [if_pos c1])
      by_cases c2 : m.hi < 0
      · have E2 := Lib.hid (show litHi m.hi d = -(-(1000 * m.hi) / d.hi) by unfold litHi; rw [if_pos c2])
        go_enter Try.func72, Try.ntmps72
        go_wp2_with fail
        (refine Soft.region0 [0, 1, 2, 3, 4, 5] [] (by kernel_rfl) (by kernel_rfl) (by kernel_rfl) (by kernel_rfl) ?_; change Soft.wpSoft _ _ _ _ _ [_, _, _, _, _, _] _; (repeat (refine Soft.soft_step (fun K hK => ?_); go_simp; (try go_bits); first | (refine hK _ ?_; clear hK K) | (apply Exists.intro; refine ⟨fun x => ?_, hK _ ?_⟩; (fail); clear hK K))); refine Soft.soft_nil ?_; intro xw; change wpList _ _ _ [] _ _)
        go_wp2_with fail
        (refine Soft.region0 [0, 1, 2, 3, 4, 5, 6, 7, 8, 9, 10] [11] (by kernel_rfl) (by kernel_rfl) (by kernel_rfl) (by kernel_rfl) ?_; change Soft.wpSoft _ _ _ _ _ [_, _, _, _, _, _, _, _, _, _, _] _; (repeat (refine Soft.soft_step (fun K hK => ?_); go_simp; (try go_bits); first | (refine hK _ ?_; clear hK K) | (apply Exists.intro; refine ⟨fun x => ?_, hK _ ?_⟩; (first | exact Calls.bel (hold_down (1000 * m.lo) d.lo _ (by omega) (by omega) (by omega)) | exact Calls.bel (hold_up (1000 * m.hi) d.hi _ (by omega) (by omega) (by omega))); clear hK K))); refine Soft.soft_nil ?_; intro xw; change wpList _ _ _ [_] _ _)
        go_wp2_with fail
        refine bodyPost_ret (v := .agg #[.int .i64 (litS m d).lo, .int .i64 (litS m d).hi]) (by simp [results, Try.results72, go_sem, litS, E1.out, E2.out]) rfl ?_
        refine ⟨rfl, ?_⟩
        (repeat (first | with_reducible exact bel_refl _ | with_reducible refine bel_alloc ?_ _ | with_reducible refine bel_bw _ ?_ | with_reducible refine bel_drew ?_ | with_reducible refine bel_drewN _ ?_ | ((with_reducible refine bel_set ?_ ?_ _); rotate_left; focus (first | (simp; done) | omega | (simp; omega))) | refine bel_step ?_ (by with_reducible assumption)))
      · have E2 := Lib.hid (show litHi m.hi d = -(-(1000 * m.hi) / d.lo) by unfold litHi; rw [if_neg c2])
        go_enter Try.func72, Try.ntmps72
        go_wp2_with fail
        (refine Soft.region0 [0, 1, 2, 3, 4, 5] [] (by kernel_rfl) (by kernel_rfl) (by kernel_rfl) (by kernel_rfl) ?_; change Soft.wpSoft _ _ _ _ _ [_, _, _, _, _, _] _; (repeat (refine Soft.soft_step (fun K hK => ?_); go_simp; (try go_bits); first | (refine hK _ ?_; clear hK K) | (apply Exists.intro; refine ⟨fun x => ?_, hK _ ?_⟩; (fail); clear hK K))); refine Soft.soft_nil ?_; intro xw; change wpList _ _ _ [] _ _)
        go_wp2_with fail
        (refine Soft.region0 [0, 1, 2, 3, 4, 5, 6, 7, 8, 9, 10] [11] (by kernel_rfl) (by kernel_rfl) (by kernel_rfl) (by kernel_rfl) ?_; change Soft.wpSoft _ _ _ _ _ [_, _, _, _, _, _, _, _, _, _, _] _; (repeat (refine Soft.soft_step (fun K hK => ?_); go_simp; (try go_bits); first | (refine hK _ ?_; clear hK K) | (apply Exists.intro; refine ⟨fun x => ?_, hK _ ?_⟩; (first | exact Calls.bel (hold_down (1000 * m.lo) d.lo _ (by omega) (by omega) (by omega)) | exact Calls.bel (hold_up (1000 * m.hi) d.lo _ (by omega) (by omega) (by omega))); clear hK K))); refine Soft.soft_nil ?_; intro xw; change wpList _ _ _ [_] _ _)
        go_wp2_with fail
        refine bodyPost_ret (v := .agg #[.int .i64 (litS m d).lo, .int .i64 (litS m d).hi]) (by simp [results, Try.results72, go_sem, litS, E1.out, E2.out]) rfl ?_
        refine ⟨rfl, ?_⟩
        (repeat (first | with_reducible exact bel_refl _ | with_reducible refine bel_alloc ?_ _ | with_reducible refine bel_bw _ ?_ | with_reducible refine bel_drew ?_ | with_reducible refine bel_drewN _ ?_ | ((with_reducible refine bel_set ?_ ?_ _); rotate_left; focus (first | (simp; done) | omega | (simp; omega))) | refine bel_step ?_ (by with_reducible assumption)))
    · have E1 := Lib.hid (show litLo m.lo d = 1000 * m.lo / d.hi by unfold litLo; rw [if_neg c1])
      have c2 : ¬m.hi < 0 := by omega
      have E2 := Lib.hid (show litHi m.hi d = -(-(1000 * m.hi) / d.lo) by unfold litHi; rw [if_neg c2])
      go_enter Try.func72, Try.ntmps72
      go_wp2_with fail
      (refine Soft.region0 [0, 1, 2, 3, 4, 5] [] (by kernel_rfl) (by kernel_rfl) (by kernel_rfl) (by kernel_rfl) ?_; change Soft.wpSoft _ _ _ _ _ [_, _, _, _, _, _] _; (repeat (refine Soft.soft_step (fun K hK => ?_); go_simp; (try go_bits); first | (refine hK _ ?_; clear hK K) | (apply Exists.intro; refine ⟨fun x => ?_, hK _ ?_⟩; (fail); clear hK K))); refine Soft.soft_nil ?_; intro xw; change wpList _ _ _ [] _ _)
      go_wp2_with fail
      (refine Soft.region0 [0, 1, 2, 3, 4, 5, 6, 7, 8, 9, 10] [11] (by kernel_rfl) (by kernel_rfl) (by kernel_rfl) (by kernel_rfl) ?_; change Soft.wpSoft _ _ _ _ _ [_, _, _, _, _, _, _, _, _, _, _] _; (repeat (refine Soft.soft_step (fun K hK => ?_); go_simp; (try go_bits); first | (refine hK _ ?_; clear hK K) | (apply Exists.intro; refine ⟨fun x => ?_, hK _ ?_⟩; (first | exact Calls.bel (hold_down (1000 * m.lo) d.hi _ (by omega) (by omega) (by omega)) | exact Calls.bel (hold_up (1000 * m.hi) d.lo _ (by omega) (by omega) (by omega))); clear hK K))); refine Soft.soft_nil ?_; intro xw; change wpList _ _ _ [_] _ _)
      go_wp2_with fail
      refine bodyPost_ret (v := .agg #[.int .i64 (litS m d).lo, .int .i64 (litS m d).hi]) (by simp [results, Try.results72, go_sem, litS, E1.out, E2.out]) rfl ?_
      refine ⟨rfl, ?_⟩
      (repeat (first | with_reducible exact bel_refl _ | with_reducible refine bel_alloc ?_ _ | with_reducible refine bel_bw _ ?_ | with_reducible refine bel_drew ?_ | with_reducible refine bel_drewN _ ?_ | ((with_reducible refine bel_set ?_ ?_ _); rotate_left; focus (first | (simp; done) | omega | (simp; omega))) | refine bel_step ?_ (by with_reducible assumption)))
  · omega

/-- The error of a mass and a density. -/
def massErr (m d : Rg) : Int := if rangeErr m = 0 then (if isDen d then 0 else 22) else 10

theorem hold_checkMass (m d : Rg) (w : World) :
    Calls Try.prog 69 #[.agg #[.int .i64 (m).lo, .int .i64 (m).hi], .agg #[.int .i64 (d).lo, .int .i64 (d).hi]] w fun e w' => e = .returned (.int .i64 (massErr m d)) ∧ Below w.heap.size w w' := by
  obtain ⟨e0, _⟩ | ⟨e0, _⟩ := rangeErr_cases m
  · by_cases c : isDen d
    · have HV := Lib.hid (show massErr m d = 0 by unfold massErr; rw [if_pos e0, if_pos c])
      have HC := Lib.hid c; clear c
      go_enter Try.func69, Try.ntmps69
      go_wp2_with (first | (go_at_call 99; (with_reducible refine (fix_CheckRange m _).mono ?_); rintro e w_ ⟨rfl, hb_⟩; obtain ⟨y1, rfl⟩ := Soft.BW.mk hb_; clear hb_) | (go_at_call 111; (with_reducible refine (hold_isDensity d _ true (decide_eq_true HC.out).symm).mono ?_); rintro e w_ ⟨rfl, hb_⟩; obtain ⟨y2, rfl⟩ := Soft.BW.mk hb_; clear hb_))
      go_ret
      refine ⟨ret_int HV.out.symm, ?_⟩
      (repeat (first | with_reducible exact bel_refl _ | with_reducible refine bel_alloc ?_ _ | with_reducible refine bel_bw _ ?_ | with_reducible refine bel_drew ?_ | with_reducible refine bel_drewN _ ?_ | ((with_reducible refine bel_set ?_ ?_ _); rotate_left; focus (first | (simp; done) | omega | (simp; omega))) | refine bel_step ?_ (by with_reducible assumption)))
    · have HV := Lib.hid (show massErr m d = 22 by unfold massErr; rw [if_pos e0, if_neg c])
      have HC := Lib.hid c; clear c
      go_enter Try.func69, Try.ntmps69
      go_wp2_with (first | (go_at_call 99; (with_reducible refine (fix_CheckRange m _).mono ?_); rintro e w_ ⟨rfl, hb_⟩; obtain ⟨y1, rfl⟩ := Soft.BW.mk hb_; clear hb_) | (go_at_call 111; (with_reducible refine (hold_isDensity d _ false (decide_eq_false HC.out).symm).mono ?_); rintro e w_ ⟨rfl, hb_⟩; obtain ⟨y2, rfl⟩ := Soft.BW.mk hb_; clear hb_))
      go_ret
      refine ⟨ret_int HV.out.symm, ?_⟩
      (repeat (first | with_reducible exact bel_refl _ | with_reducible refine bel_alloc ?_ _ | with_reducible refine bel_bw _ ?_ | with_reducible refine bel_drew ?_ | with_reducible refine bel_drewN _ ?_ | ((with_reducible refine bel_set ?_ ?_ _); rotate_left; focus (first | (simp; done) | omega | (simp; omega))) | refine bel_step ?_ (by with_reducible assumption)))
  · have HV := Lib.hid (show massErr m d = 10 by unfold massErr; rw [if_neg (by omega)])
    go_enter Try.func69, Try.ntmps69
    go_wp2_with (first | (go_at_call 99; (with_reducible refine (fix_CheckRange m _).mono ?_); rintro e w_ ⟨rfl, hb_⟩; obtain ⟨y1, rfl⟩ := Soft.BW.mk hb_; clear hb_))
    go_ret
    refine ⟨ret_int HV.out.symm, ?_⟩
    (repeat (first | with_reducible exact bel_refl _ | with_reducible refine bel_alloc ?_ _ | with_reducible refine bel_bw _ ?_ | with_reducible refine bel_drew ?_ | with_reducible refine bel_drewN _ ?_ | ((with_reducible refine bel_set ?_ ?_ _); rotate_left; focus (first | (simp; done) | omega | (simp; omega))) | refine bel_step ?_ (by with_reducible assumption)))

theorem massErr_ok {m d : Rg} (h : massErr m d = 0) : rangeErr m = 0 ∧ isDen d := by
  unfold massErr at h
  by_cases h1 : rangeErr m = 0
  · rw [if_pos h1] at h
    by_cases h2 : isDen d
    · exact ⟨h1, h2⟩
    · rw [if_neg h2] at h; omega
  · rw [if_neg h1] at h; omega

def litE (m d : Rg) : Rg := if massErr m d = 0 then litS m d else ⟨0, 0⟩

theorem hold_Litres (m d : Rg) (w : World) :
    Calls Try.prog 42 #[.agg #[.int .i64 (m).lo, .int .i64 (m).hi], .agg #[.int .i64 (d).lo, .int .i64 (d).hi]] w fun e w' => e = .returned (.tuple #[.agg #[.int .i64 (litE m d).lo, .int .i64 (litE m d).hi], .int .i64 (massErr m d)]) ∧ Below w.heap.size w w' := by
  by_cases hc : massErr m d = 0
  · have HK := Lib.hid hc
    obtain ⟨h1, h2⟩ := massErr_ok hc
    have H1 := Lib.hid h1; have H2 := Lib.hid h2
    have HV := Lib.hid (show litE m d = litS m d from if_pos hc)
    have d0 : (massErr m d != 0) = false := by rw [hc]; rfl
    clear hc h1 h2
    go_enter Try.func42, Try.ntmps42
    go_wp2_with (first | (go_at_call 69; (with_reducible refine (hold_checkMass m d _).mono ?_); rintro e w_ ⟨rfl, hb_⟩; obtain ⟨y1, rfl⟩ := Soft.BW.mk hb_; clear hb_) | (go_at_call 72; (with_reducible refine (hold_litres m d _ H1.out H2.out).mono ?_); rintro e w_ ⟨rfl, hb_⟩; obtain ⟨y2, rfl⟩ := Soft.BW.mk hb_; clear hb_))
    rw [HV.out, HK.out]
    refine bodyPost_ret (v := .tuple #[.agg #[.int .i64 (litS m d).lo, .int .i64 (litS m d).hi], .int .i64 0]) (by simp [results, Try.results42, go_sem]) rfl ?_
    refine ⟨rfl, ?_⟩
    (repeat (first | with_reducible exact bel_refl _ | with_reducible refine bel_alloc ?_ _ | with_reducible refine bel_bw _ ?_ | with_reducible refine bel_drew ?_ | with_reducible refine bel_drewN _ ?_ | ((with_reducible refine bel_set ?_ ?_ _); rotate_left; focus (first | (simp; done) | omega | (simp; omega))) | refine bel_step ?_ (by with_reducible assumption)))
  · have HV := Lib.hid (show litE m d = ⟨0, 0⟩ from if_neg hc)
    have d0 : (massErr m d != 0) = true := bne_iff_ne.2 hc
    clear hc
    go_enter Try.func42, Try.ntmps42
    go_wp2_with (first | (go_at_call 69; (with_reducible refine (hold_checkMass m d _).mono ?_); rintro e w_ ⟨rfl, hb_⟩; obtain ⟨y1, rfl⟩ := Soft.BW.mk hb_; clear hb_))
    rw [HV.out]
    refine bodyPost_ret (v := .tuple #[.agg #[.int .i64 ((⟨0, 0⟩ : Rg)).lo, .int .i64 ((⟨0, 0⟩ : Rg)).hi], .int .i64 (massErr m d)]) (by simp [results, Try.results42, go_sem]) rfl ?_
    refine ⟨rfl, ?_⟩
    (repeat (first | with_reducible exact bel_refl _ | with_reducible refine bel_alloc ?_ _ | with_reducible refine bel_bw _ ?_ | with_reducible refine bel_drew ?_ | with_reducible refine bel_drewN _ ?_ | ((with_reducible refine bel_set ?_ ?_ _); rotate_left; focus (first | (simp; done) | omega | (simp; omega))) | refine bel_step ?_ (by with_reducible assumption)))

def hullS (a b : Rg) : Rg := ⟨min a.lo b.lo, max a.hi b.hi⟩
theorem hold_hull (a b : Rg) (w : World) :
    Calls Try.prog 74 #[.agg #[.int .i64 (a).lo, .int .i64 (a).hi], .agg #[.int .i64 (b).lo, .int .i64 (b).hi]] w fun e w' => e = .returned (.agg #[.int .i64 (hullS a b).lo, .int .i64 (hullS a b).hi]) ∧ Below w.heap.size w w' := by
  go_enter Try.func74, Try.ntmps74
  go_wp2_with fail
  all_goals
    refine bodyPost_ret (v := .agg #[.int .i64 (hullS a b).lo, .int .i64 (hullS a b).hi]) (by simp [results, Try.results74, go_sem, hullS]; omega) rfl ?_
    refine ⟨rfl, ?_⟩
    (repeat (first | with_reducible exact bel_refl _ | with_reducible refine bel_alloc ?_ _ | with_reducible refine bel_bw _ ?_ | with_reducible refine bel_drew ?_ | with_reducible refine bel_drewN _ ?_ | ((with_reducible refine bel_set ?_ ?_ _); rotate_left; focus (first | (simp; done) | omega | (simp; omega))) | refine bel_step ?_ (by with_reducible assumption)))

def plusS (a b : Rg) : Rg := ⟨a.lo + b.lo, a.hi + b.hi⟩
theorem hold_plus (a b : Rg) (w : World) (h1 : I64 (a.lo + b.lo)) (h2 : I64 (a.hi + b.hi)) :
    Calls Try.prog 108 #[.agg #[.int .i64 (a).lo, .int .i64 (a).hi], .agg #[.int .i64 (b).lo, .int .i64 (b).hi]] w fun e w' => e = .returned (.agg #[.int .i64 (plusS a b).lo, .int .i64 (plusS a b).hi]) ∧ Below w.heap.size w w' := by
  obtain ⟨a1, a2⟩ := h1
  obtain ⟨b1, b2⟩ := h2
  go_enter Try.func108, Try.ntmps108
  go_wp2_with fail
  refine bodyPost_ret (v := .agg #[.int .i64 (plusS a b).lo, .int .i64 (plusS a b).hi]) (by simp [results, Try.results108, go_sem, plusS]) rfl ?_
  refine ⟨rfl, ?_⟩
  (repeat (first | with_reducible exact bel_refl _ | with_reducible refine bel_alloc ?_ _ | with_reducible refine bel_bw _ ?_ | with_reducible refine bel_drew ?_ | with_reducible refine bel_drewN _ ?_ | ((with_reducible refine bel_set ?_ ?_ _); rotate_left; focus (first | (simp; done) | omega | (simp; omega))) | refine bel_step ?_ (by with_reducible assumption)))

end Go.Proofs.Ytbjdgaeikihjbaa
