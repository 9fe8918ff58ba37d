/-
  CheckTank and CheckLevel.
  Conditions: each theorem's own premises.
-/
import Derived.Test.YtbjdgaeikihjbaaCheck
import Derived.Test.YtbjdgaeikihjbaaFille
namespace Go.Proofs.Ytbjdgaeikihjbaa
set_option linter.unusedSimpArgs false
set_option linter.unusedVariables false
open Go.RowKit
set_option maxRecDepth 100000
set_option maxHeartbeats 4000000
attribute [local go_sem] Instr.field asAgg Soft.upon Soft.BW.cell_if Soft.BW.frozen_if Soft.cell_alloc_if Soft.frozen_alloc_if

/-- A valid tank. -/
structure TankOk (t : Tk) : Prop where
  id : 1 ≤ t.id ∧ t.id ≤ 9
  along : isPart t.along (-1000000) 1000000
  tabs : tabs3 t.vol.ps t.sur.ps t.hei.ps
  mv : mono t.vol.ps 1
  mh : mono t.hei.ps 1
theorem tankOk_iff (t : Tk) : TankOk t ↔ (1 ≤ t.id ∧ t.id ≤ 9) ∧ isPart t.along (-1000000) 1000000 ∧ tabs3 t.vol.ps t.sur.ps t.hei.ps ∧ mono t.vol.ps 1 ∧ mono t.hei.ps 1 :=
  ⟨fun h => ⟨h.id, h.along, h.tabs, h.mv, h.mh⟩, fun ⟨a, b, c, d, e⟩ => ⟨a, b, c, d, e⟩⟩
instance (t : Tk) : Decidable (TankOk t) := decidable_of_iff _ (tankOk_iff t).symm
def tankErr (t : Tk) : Int := if TankOk t then 0 else 21


theorem hold_CheckTank (t : Tk) (w : World) (hh : t.At w) :
    Calls Try.prog 84 #[.agg #[.int .i64 (t).id, .int .i64 ((t).along).lo, .int .i64 ((t).along).hi, .slice ((t).vol).p ((t).vol).n ((t).vol).c, .slice ((t).sur).p ((t).sur).n ((t).sur).c, .slice ((t).hei).p ((t).hei).n ((t).hei).c]] w fun e w' => e = .returned (.int .i64 (tankErr t)) ∧ Below w.heap.size w w' := by
  obtain ⟨hv, hm, hz⟩ := hh
  by_cases c1 : 1 ≤ t.id ∧ t.id ≤ 9
  · by_cases c2 : isPart t.along (-1000000) 1000000
    · by_cases c3 : tabs3 t.vol.ps t.sur.ps t.hei.ps
      · have hT1 : Tab2 t.vol.ps := c3.1
        have hT3 : Tab2 t.hei.ps := c3.2.2.1
        by_cases c4 : mono t.vol.ps 1
        · have HE := Lib.hid (show tankErr t = if mono t.hei.ps 1 then 0 else 21 by
            unfold tankErr
            by_cases c5 : mono t.hei.ps 1
            · rw [if_pos c5, if_pos ⟨c1, c2, c3, c4, c5⟩]
            · rw [if_neg c5, if_neg (fun h => c5 h.mh)])
          have C1 := Lib.hid c1; have C2 := Lib.hid c2; have C3 := Lib.hid c3; have C4 := Lib.hid c4; clear c1 c2 c3 c4
          by_cases c5 : mono t.hei.ps 1
          · have HE := Lib.hid (show tankErr t = 0 by rw [HE.out, if_pos c5])
            have C5 := Lib.hid c5; clear c5
            go_enter Try.func84, Try.ntmps84
            go_wp2_with (first | (go_at_call 88; (with_reducible refine (hold_isWithin _ _ _ _ true (decide_eq_true C1.out).symm).mono ?_); rintro e w_ ⟨rfl, hw_⟩; subst w_) | (go_at_call 112; (with_reducible refine (hold_isPart t.along _ _ _ true (decide_eq_true C2.out).symm).mono ?_); rintro e w_ ⟨rfl, hb_⟩; obtain ⟨y1, rfl⟩ := Soft.BW.mk hb_; clear hb_) | (go_at_call 121; (with_reducible refine (hold_areTables t.vol t.sur t.hei _ _ (by repeat (first | exact hv | refine Tb.At.alloc ?_ _ | refine Tb.At.bw ?_ _)) (by repeat (first | exact hm | refine Tb.At.alloc ?_ _ | refine Tb.At.bw ?_ _)) (by repeat (first | exact hz | refine Tb.At.alloc ?_ _ | refine Tb.At.bw ?_ _)) (by simp only [HasBlk, Soft.BW.heap_if, Soft.heap_alloc_if, Soft.heap_new, Soft.heap_new1, Soft.heap_new2, Soft.heap_new3, Soft.heap_new4, Soft.heap_new5]) true (decide_eq_true C3.out).symm).mono ?_); rintro e w_ ⟨rfl, hb_⟩; obtain ⟨y2, rfl⟩ := Soft.BW.mk hb_; clear hb_) | (go_at_call 122; (with_reducible refine (hold_isMonotone t.vol 1 (.inl rfl) _ (by repeat (first | exact hv | refine Tb.At.alloc ?_ _ | refine Tb.At.bw ?_ _)) hT1 true (decide_eq_true C4.out).symm).mono ?_); rintro e w_ ⟨rfl, hb_⟩; obtain ⟨y3, rfl⟩ := Soft.BW.mk hb_; clear hb_) | (go_at_call 122; (with_reducible refine (hold_isMonotone t.hei 1 (.inl rfl) _ (by repeat (first | exact hz | refine Tb.At.alloc ?_ _ | refine Tb.At.bw ?_ _)) hT3 true (decide_eq_true C5.out).symm).mono ?_); rintro e w_ ⟨rfl, hb_⟩; obtain ⟨y4, rfl⟩ := Soft.BW.mk hb_; clear hb_))
            go_ret
            refine ⟨ret_int HE.out.symm, ?_⟩
            (repeat (first | with_reducible exact bel_refl _ | with_reducible refine bel_alloc ?_ _ | with_reducible refine bel_bw _ ?_ | with_reducible refine bel_drew ?_ | with_reducible refine bel_drewN _ ?_ | ((with_reducible refine bel_set ?_ ?_ _); rotate_left; focus (first | (simp; done) | omega | (simp; omega))) | refine bel_step ?_ (by with_reducible assumption)))
          · have HE := Lib.hid (show tankErr t = 21 by rw [HE.out, if_neg c5])
            have C5 := Lib.hid c5; clear c5
            go_enter Try.func84, Try.ntmps84
            go_wp2_with (first | (go_at_call 88; (with_reducible refine (hold_isWithin _ _ _ _ true (decide_eq_true C1.out).symm).mono ?_); rintro e w_ ⟨rfl, hw_⟩; subst w_) | (go_at_call 112; (with_reducible refine (hold_isPart t.along _ _ _ true (decide_eq_true C2.out).symm).mono ?_); rintro e w_ ⟨rfl, hb_⟩; obtain ⟨y1, rfl⟩ := Soft.BW.mk hb_; clear hb_) | (go_at_call 121; (with_reducible refine (hold_areTables t.vol t.sur t.hei _ _ (by repeat (first | exact hv | refine Tb.At.alloc ?_ _ | refine Tb.At.bw ?_ _)) (by repeat (first | exact hm | refine Tb.At.alloc ?_ _ | refine Tb.At.bw ?_ _)) (by repeat (first | exact hz | refine Tb.At.alloc ?_ _ | refine Tb.At.bw ?_ _)) (by simp only [HasBlk, Soft.BW.heap_if, Soft.heap_alloc_if, Soft.heap_new, Soft.heap_new1, Soft.heap_new2, Soft.heap_new3, Soft.heap_new4, Soft.heap_new5]) true (decide_eq_true C3.out).symm).mono ?_); rintro e w_ ⟨rfl, hb_⟩; obtain ⟨y2, rfl⟩ := Soft.BW.mk hb_; clear hb_) | (go_at_call 122; (with_reducible refine (hold_isMonotone t.vol 1 (.inl rfl) _ (by repeat (first | exact hv | refine Tb.At.alloc ?_ _ | refine Tb.At.bw ?_ _)) hT1 true (decide_eq_true C4.out).symm).mono ?_); rintro e w_ ⟨rfl, hb_⟩; obtain ⟨y3, rfl⟩ := Soft.BW.mk hb_; clear hb_) | (go_at_call 122; (with_reducible refine (hold_isMonotone t.hei 1 (.inl rfl) _ (by repeat (first | exact hz | refine Tb.At.alloc ?_ _ | refine Tb.At.bw ?_ _)) hT3 false (decide_eq_false C5.out).symm).mono ?_); rintro e w_ ⟨rfl, hb_⟩; obtain ⟨y4, rfl⟩ := Soft.BW.mk hb_; clear hb_))
            go_ret
            refine ⟨ret_int HE.out.symm, ?_⟩
            (repeat (first | with_reducible exact bel_refl _ | with_reducible refine bel_alloc ?_ _ | with_reducible refine bel_bw _ ?_ | with_reducible refine bel_drew ?_ | with_reducible refine bel_drewN _ ?_ | ((with_reducible refine bel_set ?_ ?_ _); rotate_left; focus (first | (simp; done) | omega | (simp; omega))) | refine bel_step ?_ (by with_reducible assumption)))
        · have HE := Lib.hid (show tankErr t = 21 from if_neg (fun h => c4 h.mv))
          have C1 := Lib.hid c1; have C2 := Lib.hid c2; have C3 := Lib.hid c3; have C4 := Lib.hid c4; clear c1 c2 c3 c4
          go_enter Try.func84, Try.ntmps84
          go_wp2_with (first | (go_at_call 88; (with_reducible refine (hold_isWithin _ _ _ _ true (decide_eq_true C1.out).symm).mono ?_); rintro e w_ ⟨rfl, hw_⟩; subst w_) | (go_at_call 112; (with_reducible refine (hold_isPart t.along _ _ _ true (decide_eq_true C2.out).symm).mono ?_); rintro e w_ ⟨rfl, hb_⟩; obtain ⟨y1, rfl⟩ := Soft.BW.mk hb_; clear hb_) | (go_at_call 121; (with_reducible refine (hold_areTables t.vol t.sur t.hei _ _ (by repeat (first | exact hv | refine Tb.At.alloc ?_ _ | refine Tb.At.bw ?_ _)) (by repeat (first | exact hm | refine Tb.At.alloc ?_ _ | refine Tb.At.bw ?_ _)) (by repeat (first | exact hz | refine Tb.At.alloc ?_ _ | refine Tb.At.bw ?_ _)) (by simp only [HasBlk, Soft.BW.heap_if, Soft.heap_alloc_if, Soft.heap_new, Soft.heap_new1, Soft.heap_new2, Soft.heap_new3, Soft.heap_new4, Soft.heap_new5]) true (decide_eq_true C3.out).symm).mono ?_); rintro e w_ ⟨rfl, hb_⟩; obtain ⟨y2, rfl⟩ := Soft.BW.mk hb_; clear hb_) | (go_at_call 122; (with_reducible refine (hold_isMonotone t.vol 1 (.inl rfl) _ (by repeat (first | exact hv | refine Tb.At.alloc ?_ _ | refine Tb.At.bw ?_ _)) hT1 false (decide_eq_false C4.out).symm).mono ?_); rintro e w_ ⟨rfl, hb_⟩; obtain ⟨y3, rfl⟩ := Soft.BW.mk hb_; clear hb_))
          go_ret
          refine ⟨ret_int HE.out.symm, ?_⟩
          (repeat (first | with_reducible exact bel_refl _ | with_reducible refine bel_alloc ?_ _ | with_reducible refine bel_bw _ ?_ | with_reducible refine bel_drew ?_ | with_reducible refine bel_drewN _ ?_ | ((with_reducible refine bel_set ?_ ?_ _); rotate_left; focus (first | (simp; done) | omega | (simp; omega))) | refine bel_step ?_ (by with_reducible assumption)))
      · have HE := Lib.hid (show tankErr t = 21 from if_neg (fun h => c3 h.tabs))
        have C1 := Lib.hid c1; have C2 := Lib.hid c2; have C3 := Lib.hid c3; clear c1 c2 c3
        go_enter Try.func84, Try.ntmps84
        go_wp2_with (first | (go_at_call 88; (with_reducible refine (hold_isWithin _ _ _ _ true (decide_eq_true C1.out).symm).mono ?_); rintro e w_ ⟨rfl, hw_⟩; subst w_) | (go_at_call 112; (with_reducible refine (hold_isPart t.along _ _ _ true (decide_eq_true C2.out).symm).mono ?_); rintro e w_ ⟨rfl, hb_⟩; obtain ⟨y1, rfl⟩ := Soft.BW.mk hb_; clear hb_) | (go_at_call 121; (with_reducible refine (hold_areTables t.vol t.sur t.hei _ _ (by repeat (first | exact hv | refine Tb.At.alloc ?_ _ | refine Tb.At.bw ?_ _)) (by repeat (first | exact hm | refine Tb.At.alloc ?_ _ | refine Tb.At.bw ?_ _)) (by repeat (first | exact hz | refine Tb.At.alloc ?_ _ | refine Tb.At.bw ?_ _)) (by simp only [HasBlk, Soft.BW.heap_if, Soft.heap_alloc_if, Soft.heap_new, Soft.heap_new1, Soft.heap_new2, Soft.heap_new3, Soft.heap_new4, Soft.heap_new5]) false (decide_eq_false C3.out).symm).mono ?_); rintro e w_ ⟨rfl, hb_⟩; obtain ⟨y2, rfl⟩ := Soft.BW.mk hb_; clear hb_))
        go_ret
        refine ⟨ret_int HE.out.symm, ?_⟩
        (repeat (first | with_reducible exact bel_refl _ | with_reducible refine bel_alloc ?_ _ | with_reducible refine bel_bw _ ?_ | with_reducible refine bel_drew ?_ | with_reducible refine bel_drewN _ ?_ | ((with_reducible refine bel_set ?_ ?_ _); rotate_left; focus (first | (simp; done) | omega | (simp; omega))) | refine bel_step ?_ (by with_reducible assumption)))
    · have HE := Lib.hid (show tankErr t = 21 from if_neg (fun h => c2 h.along))
      have C1 := Lib.hid c1; have C2 := Lib.hid c2; clear c1 c2
      go_enter Try.func84, Try.ntmps84
      go_wp2_with (first | (go_at_call 88; (with_reducible refine (hold_isWithin _ _ _ _ true (decide_eq_true C1.out).symm).mono ?_); rintro e w_ ⟨rfl, hw_⟩; subst w_) | (go_at_call 112; (with_reducible refine (hold_isPart t.along _ _ _ false (decide_eq_false C2.out).symm).mono ?_); rintro e w_ ⟨rfl, hb_⟩; obtain ⟨y1, rfl⟩ := Soft.BW.mk hb_; clear hb_))
      go_ret
      refine ⟨ret_int HE.out.symm, ?_⟩
      (repeat (first | with_reducible exact bel_refl _ | with_reducible refine bel_alloc ?_ _ | with_reducible refine bel_bw _ ?_ | with_reducible refine bel_drew ?_ | with_reducible refine bel_drewN _ ?_ | ((with_reducible refine bel_set ?_ ?_ _); rotate_left; focus (first | (simp; done) | omega | (simp; omega))) | refine bel_step ?_ (by with_reducible assumption)))
  · have HE := Lib.hid (show tankErr t = 21 from if_neg (fun h => c1 h.id))
    have C1 := Lib.hid c1; clear c1
    go_enter Try.func84, Try.ntmps84
    go_wp2_with (go_at_call 88; (with_reducible refine (hold_isWithin _ _ _ _ false (decide_eq_false C1.out).symm).mono ?_); rintro e w_ ⟨rfl, hw_⟩; subst w_)
    go_ret
    refine ⟨ret_int HE.out.symm, ?_⟩
    (repeat (first | with_reducible exact bel_refl _ | with_reducible refine bel_alloc ?_ _ | with_reducible refine bel_bw _ ?_ | with_reducible refine bel_drew ?_ | with_reducible refine bel_drewN _ ?_ | ((with_reducible refine bel_set ?_ ?_ _); rotate_left; focus (first | (simp; done) | omega | (simp; omega))) | refine bel_step ?_ (by with_reducible assumption)))

/-- What a valid level of a tank is. -/
def LevelIn (t : Tk) (l : Lv) : Prop := l.tank = t.id ∧ isDen l.den ∧ isPart l.snd (firstX t.vol.ps) (lastX t.vol.ps) ∧ (l.pressed = true → l.snd.lo = lastX t.vol.ps)
instance (t : Tk) (l : Lv) : Decidable (LevelIn t l) := inferInstanceAs (Decidable (_ ∧ _))
def levelErr (t : Tk) (l : Lv) : Int := if TankOk t then (if LevelIn t l then 0 else 23) else 21

theorem levelErr_no {t : Tk} {l : Lv} (h0 : TankOk t) (h : ¬LevelIn t l) : levelErr t l = 23 := by unfold levelErr; rw [if_pos h0, if_neg h]
theorem levelErr_yes {t : Tk} {l : Lv} (h0 : TankOk t) (h : LevelIn t l) : levelErr t l = 0 := by unfold levelErr; rw [if_pos h0, if_pos h]

theorem hold_CheckLevel (t : Tk) (l : Lv) (w : World) (hh : t.At w) :
    Calls Try.prog 104 #[.agg #[.int .i64 (t).id, .int .i64 ((t).along).lo, .int .i64 ((t).along).hi, .slice ((t).vol).p ((t).vol).n ((t).vol).c, .slice ((t).sur).p ((t).sur).n ((t).sur).c, .slice ((t).hei).p ((t).hei).n ((t).hei).c], .agg #[.int .i64 (l).tank, .bool (l).pressed, .int .i64 ((l).snd).lo, .int .i64 ((l).snd).hi, .int .i64 ((l).den).lo, .int .i64 ((l).den).hi]] w fun e w' => e = .returned (.int .i64 (levelErr t l)) ∧ Below w.heap.size w w' := by
  have hv := hh.1
  by_cases h0 : TankOk t
  · have hE : tankErr t = 0 := if_pos h0
    have hn : 1 ≤ t.vol.n := by rw [← hv.1]; exact h0.tabs.1.ok.pos
    have H0 := Lib.hid h0; clear h0
    by_cases c1 : l.tank = t.id
    · have d1 : (l.tank != t.id) = false := by rw [c1]; simp
      have C1 := Lib.hid c1; clear c1
      by_cases c2 : isDen l.den
      · have C2 := Lib.hid c2; clear c2
        by_cases c3 : isPart l.snd (firstX t.vol.ps) (lastX t.vol.ps)
        · have C3 := Lib.hid c3; clear c3
          cases hp : l.pressed
          · have HE := Lib.hid (levelErr_yes (l := l) H0.out ⟨C1.out, C2.out, C3.out, fun h => by rw [hp] at h; cases h⟩)
            go_enter Try.func104, Try.ntmps104
            go_wp2_with (first | (go_at_call 84; (with_reducible refine (hold_CheckTank t _ (by with_reducible repeat (first | exact hh | refine Ho.At.alloc ?_ _ | refine Ho.At.bw ?_ _ | refine Tk.At.alloc ?_ _ | refine Tk.At.bw ?_ _))).mono ?_); rintro e w_ ⟨rfl, hb_⟩; obtain ⟨y1, rfl⟩ := Soft.BW.mk hb_; clear hb_) | (go_at_call 101; (with_reducible refine (hold_domain t.vol _ (by repeat (first | exact hv | refine Tb.At.alloc ?_ _ | refine Tb.At.bw ?_ _)) hn).mono ?_); rintro e w_ ⟨rfl, hb_⟩; obtain ⟨y2, rfl⟩ := Soft.BW.mk hb_; clear hb_) | (go_at_call 111; (with_reducible refine (hold_isDensity l.den _ true (decide_eq_true C2.out).symm).mono ?_); rintro e w_ ⟨rfl, hb_⟩; obtain ⟨y3, rfl⟩ := Soft.BW.mk hb_; clear hb_) | (go_at_call 112; (with_reducible refine (hold_isPart l.snd _ _ _ true (decide_eq_true C3.out).symm).mono ?_); rintro e w_ ⟨rfl, hb_⟩; obtain ⟨y4, rfl⟩ := Soft.BW.mk hb_; clear hb_))
            go_ret
            refine ⟨ret_int HE.out.symm, ?_⟩
            (repeat (first | with_reducible exact bel_refl _ | with_reducible refine bel_alloc ?_ _ | with_reducible refine bel_bw _ ?_ | with_reducible refine bel_drew ?_ | with_reducible refine bel_drewN _ ?_ | ((with_reducible refine bel_set ?_ ?_ _); rotate_left; focus (first | (simp; done) | omega | (simp; omega))) | refine bel_step ?_ (by with_reducible assumption)))
          · by_cases c4 : l.snd.lo = lastX t.vol.ps
            · have HE := Lib.hid (levelErr_yes (l := l) H0.out ⟨C1.out, C2.out, C3.out, fun _ => c4⟩)
              have d4 : (l.snd.lo != lastX t.vol.ps) = false := by rw [c4]; simp
              clear c4
              go_enter Try.func104, Try.ntmps104
              go_wp2_with (first | (go_at_call 84; (with_reducible refine (hold_CheckTank t _ (by with_reducible repeat (first | exact hh | refine Ho.At.alloc ?_ _ | refine Ho.At.bw ?_ _ | refine Tk.At.alloc ?_ _ | refine Tk.At.bw ?_ _))).mono ?_); rintro e w_ ⟨rfl, hb_⟩; obtain ⟨y1, rfl⟩ := Soft.BW.mk hb_; clear hb_) | (go_at_call 101; (with_reducible refine (hold_domain t.vol _ (by repeat (first | exact hv | refine Tb.At.alloc ?_ _ | refine Tb.At.bw ?_ _)) hn).mono ?_); rintro e w_ ⟨rfl, hb_⟩; obtain ⟨y2, rfl⟩ := Soft.BW.mk hb_; clear hb_) | (go_at_call 111; (with_reducible refine (hold_isDensity l.den _ true (decide_eq_true C2.out).symm).mono ?_); rintro e w_ ⟨rfl, hb_⟩; obtain ⟨y3, rfl⟩ := Soft.BW.mk hb_; clear hb_) | (go_at_call 112; (with_reducible refine (hold_isPart l.snd _ _ _ true (decide_eq_true C3.out).symm).mono ?_); rintro e w_ ⟨rfl, hb_⟩; obtain ⟨y4, rfl⟩ := Soft.BW.mk hb_; clear hb_))
              go_ret
              refine ⟨ret_int HE.out.symm, ?_⟩
              (repeat (first | with_reducible exact bel_refl _ | with_reducible refine bel_alloc ?_ _ | with_reducible refine bel_bw _ ?_ | with_reducible refine bel_drew ?_ | with_reducible refine bel_drewN _ ?_ | ((with_reducible refine bel_set ?_ ?_ _); rotate_left; focus (first | (simp; done) | omega | (simp; omega))) | refine bel_step ?_ (by with_reducible assumption)))
            · have HE := Lib.hid (levelErr_no (l := l) H0.out (fun h => c4 (h.2.2.2 hp)))
              have d4 : (l.snd.lo != lastX t.vol.ps) = true := bne_iff_ne.2 c4
              clear c4
              go_enter Try.func104, Try.ntmps104
              go_wp2_with (first | (go_at_call 84; (with_reducible refine (hold_CheckTank t _ (by with_reducible repeat (first | exact hh | refine Ho.At.alloc ?_ _ | refine Ho.At.bw ?_ _ | refine Tk.At.alloc ?_ _ | refine Tk.At.bw ?_ _))).mono ?_); rintro e w_ ⟨rfl, hb_⟩; obtain ⟨y1, rfl⟩ := Soft.BW.mk hb_; clear hb_) | (go_at_call 101; (with_reducible refine (hold_domain t.vol _ (by repeat (first | exact hv | refine Tb.At.alloc ?_ _ | refine Tb.At.bw ?_ _)) hn).mono ?_); rintro e w_ ⟨rfl, hb_⟩; obtain ⟨y2, rfl⟩ := Soft.BW.mk hb_; clear hb_) | (go_at_call 111; (with_reducible refine (hold_isDensity l.den _ true (decide_eq_true C2.out).symm).mono ?_); rintro e w_ ⟨rfl, hb_⟩; obtain ⟨y3, rfl⟩ := Soft.BW.mk hb_; clear hb_) | (go_at_call 112; (with_reducible refine (hold_isPart l.snd _ _ _ true (decide_eq_true C3.out).symm).mono ?_); rintro e w_ ⟨rfl, hb_⟩; obtain ⟨y4, rfl⟩ := Soft.BW.mk hb_; clear hb_))
              go_ret
              refine ⟨ret_int HE.out.symm, ?_⟩
              (repeat (first | with_reducible exact bel_refl _ | with_reducible refine bel_alloc ?_ _ | with_reducible refine bel_bw _ ?_ | with_reducible refine bel_drew ?_ | with_reducible refine bel_drewN _ ?_ | ((with_reducible refine bel_set ?_ ?_ _); rotate_left; focus (first | (simp; done) | omega | (simp; omega))) | refine bel_step ?_ (by with_reducible assumption)))
        · have HE := Lib.hid (levelErr_no (l := l) H0.out (fun h => c3 h.2.2.1))
          have C3 := Lib.hid c3; clear c3
          go_enter Try.func104, Try.ntmps104
          go_wp2_with (first | (go_at_call 84; (with_reducible refine (hold_CheckTank t _ (by with_reducible repeat (first | exact hh | refine Ho.At.alloc ?_ _ | refine Ho.At.bw ?_ _ | refine Tk.At.alloc ?_ _ | refine Tk.At.bw ?_ _))).mono ?_); rintro e w_ ⟨rfl, hb_⟩; obtain ⟨y1, rfl⟩ := Soft.BW.mk hb_; clear hb_) | (go_at_call 101; (with_reducible refine (hold_domain t.vol _ (by repeat (first | exact hv | refine Tb.At.alloc ?_ _ | refine Tb.At.bw ?_ _)) hn).mono ?_); rintro e w_ ⟨rfl, hb_⟩; obtain ⟨y2, rfl⟩ := Soft.BW.mk hb_; clear hb_) | (go_at_call 111; (with_reducible refine (hold_isDensity l.den _ true (decide_eq_true C2.out).symm).mono ?_); rintro e w_ ⟨rfl, hb_⟩; obtain ⟨y3, rfl⟩ := Soft.BW.mk hb_; clear hb_) | (go_at_call 112; (with_reducible refine (hold_isPart l.snd _ _ _ false (decide_eq_false C3.out).symm).mono ?_); rintro e w_ ⟨rfl, hb_⟩; obtain ⟨y4, rfl⟩ := Soft.BW.mk hb_; clear hb_))
          go_ret
          refine ⟨ret_int HE.out.symm, ?_⟩
          (repeat (first | with_reducible exact bel_refl _ | with_reducible refine bel_alloc ?_ _ | with_reducible refine bel_bw _ ?_ | with_reducible refine bel_drew ?_ | with_reducible refine bel_drewN _ ?_ | ((with_reducible refine bel_set ?_ ?_ _); rotate_left; focus (first | (simp; done) | omega | (simp; omega))) | refine bel_step ?_ (by with_reducible assumption)))
      · have HE := Lib.hid (levelErr_no (l := l) H0.out (fun h => c2 h.2.1))
        have C2 := Lib.hid c2; clear c2
        go_enter Try.func104, Try.ntmps104
        go_wp2_with (first | (go_at_call 84; (with_reducible refine (hold_CheckTank t _ (by with_reducible repeat (first | exact hh | refine Ho.At.alloc ?_ _ | refine Ho.At.bw ?_ _ | refine Tk.At.alloc ?_ _ | refine Tk.At.bw ?_ _))).mono ?_); rintro e w_ ⟨rfl, hb_⟩; obtain ⟨y1, rfl⟩ := Soft.BW.mk hb_; clear hb_) | (go_at_call 101; (with_reducible refine (hold_domain t.vol _ (by repeat (first | exact hv | refine Tb.At.alloc ?_ _ | refine Tb.At.bw ?_ _)) hn).mono ?_); rintro e w_ ⟨rfl, hb_⟩; obtain ⟨y2, rfl⟩ := Soft.BW.mk hb_; clear hb_) | (go_at_call 111; (with_reducible refine (hold_isDensity l.den _ false (decide_eq_false C2.out).symm).mono ?_); rintro e w_ ⟨rfl, hb_⟩; obtain ⟨y3, rfl⟩ := Soft.BW.mk hb_; clear hb_))
        go_ret
        refine ⟨ret_int HE.out.symm, ?_⟩
        (repeat (first | with_reducible exact bel_refl _ | with_reducible refine bel_alloc ?_ _ | with_reducible refine bel_bw _ ?_ | with_reducible refine bel_drew ?_ | with_reducible refine bel_drewN _ ?_ | ((with_reducible refine bel_set ?_ ?_ _); rotate_left; focus (first | (simp; done) | omega | (simp; omega))) | refine bel_step ?_ (by with_reducible assumption)))
    · have HE := Lib.hid (levelErr_no (l := l) H0.out (fun h => c1 h.1))
      have d1 : (l.tank != t.id) = true := bne_iff_ne.2 c1
      clear c1
      go_enter Try.func104, Try.ntmps104
      go_wp2_with (first | (go_at_call 84; (with_reducible refine (hold_CheckTank t _ (by with_reducible repeat (first | exact hh | refine Ho.At.alloc ?_ _ | refine Ho.At.bw ?_ _ | refine Tk.At.alloc ?_ _ | refine Tk.At.bw ?_ _))).mono ?_); rintro e w_ ⟨rfl, hb_⟩; obtain ⟨y1, rfl⟩ := Soft.BW.mk hb_; clear hb_) | (go_at_call 101; (with_reducible refine (hold_domain t.vol _ (by repeat (first | exact hv | refine Tb.At.alloc ?_ _ | refine Tb.At.bw ?_ _)) hn).mono ?_); rintro e w_ ⟨rfl, hb_⟩; obtain ⟨y2, rfl⟩ := Soft.BW.mk hb_; clear hb_))
      go_ret
      refine ⟨ret_int HE.out.symm, ?_⟩
      (repeat (first | with_reducible exact bel_refl _ | with_reducible refine bel_alloc ?_ _ | with_reducible refine bel_bw _ ?_ | with_reducible refine bel_drew ?_ | with_reducible refine bel_drewN _ ?_ | ((with_reducible refine bel_set ?_ ?_ _); rotate_left; focus (first | (simp; done) | omega | (simp; omega))) | refine bel_step ?_ (by with_reducible assumption)))
  · have hE : tankErr t = 21 := if_neg h0
    have HE := Lib.hid (show levelErr t l = 21 from if_neg h0); clear h0
    go_enter Try.func104, Try.ntmps104
    go_wp2_with (go_at_call 84; (with_reducible refine (hold_CheckTank t _ (by with_reducible repeat (first | exact hh | refine Ho.At.alloc ?_ _ | refine Ho.At.bw ?_ _ | refine Tk.At.alloc ?_ _ | refine Tk.At.bw ?_ _))).mono ?_); rintro e w_ ⟨rfl, hb_⟩; obtain ⟨y1, rfl⟩ := Soft.BW.mk hb_; clear hb_)
    go_ret
    refine ⟨ret_int HE.out.symm, ?_⟩
    (repeat (first | with_reducible exact bel_refl _ | with_reducible refine bel_alloc ?_ _ | with_reducible refine bel_bw _ ?_ | with_reducible refine bel_drew ?_ | with_reducible refine bel_drewN _ ?_ | ((with_reducible refine bel_set ?_ ?_ _); rotate_left; focus (first | (simp; done) | omega | (simp; omega))) | refine bel_step ?_ (by with_reducible assumption)))

end Go.Proofs.Ytbjdgaeikihjbaa
